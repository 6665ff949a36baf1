/- acct.plain, acct.Right. -/
import Derived.Test.YtkbjnlbbfapgdaaDoorAcctK
set_option maxRecDepth 100000
set_option linter.unusedVariables false
set_option linter.unusedSimpArgs false
namespace Go.Proofs.YtkbjnlbbfapgdaaDoor
open Go.RowKit

theorem aplain_calls (x : Nat) (w : World) (hx : x < 18446744073709551616) : Calls Tryd.prog 62 #[.int .u64 x] w fun e w' => e = .returned (.bool (plainB x)) ∧ w = w' := by
  have HR := Lib.hid (cls_ranges hx)
  by_cases h : clsN x = 3 ∨ clsN x = 4 ∨ clsN x = 5
  · have he : pcE x = 0 := if_pos h
    have HV : Hid (((pcV x : Int) == (x : Int)) = plainB x) := by
      show _ = _
      rw [show pcV x = canonN x from if_pos h, canonN, plainB, Bool.eq_iff_iff]
      simp only [beq_iff_eq, decide_eq_true_eq]
      have := HR.out
      rcases h with h | h | h <;> rw [h] <;> simp <;> omega
    clear h
    go_enter Tryd.func62, Tryd.ntmps62
    go_wp2_with fail
    refine (pcheck_calls x _ hx).mono ?_
    rintro e w' ⟨rfl, rfl⟩
    rw [he]
    go_wp2_with fail
    go_ret
    exact ⟨congrArg (fun b => Ending.returned (.bool b)) HV.out, rfl⟩
  · have he : pcE x = 13 := if_neg h
    have HV : Hid (plainB x = false) := by
      show _ = _
      rw [plainB, decide_eq_false]; omega
    clear h
    go_enter Tryd.func62, Tryd.ntmps62
    go_wp2_with fail
    refine (pcheck_calls x _ hx).mono ?_
    rintro e w' ⟨rfl, rfl⟩
    rw [he]
    go_wp2_with fail
    go_ret
    exact ⟨congrArg (fun b => Ending.returned (.bool b)) HV.out.symm, rfl⟩

def lzV (l : Lz) : Array Value := #[.int .u64 l.id, .int .u64 l.sz]
def stV (s : St) : Array Value := #[.string s.ten, .int .u64 s.per, .int .u64 s.used, .int .u64 s.cap, .int .u64 s.bits, .int .u64 s.due]
theorem lz_cells {w : World} {g : Nat} {t : TypeId} {l : Lz} (h : Arr w g t (lzV l)) : w.cell? ⟨g, 0, none⟩ = some (.int .u64 l.id) ∧ w.cell? ⟨g, 1, none⟩ = some (.int .u64 l.sz) := ⟨h.cell 0, h.cell 1⟩
theorem st_cells {w : World} {g : Nat} {t : TypeId} {s : St} (h : Arr w g t (stV s)) :
    w.cell? ⟨g, 0, none⟩ = some (.string s.ten) ∧ w.cell? ⟨g, 1, none⟩ = some (.int .u64 s.per) ∧ w.cell? ⟨g, 2, none⟩ = some (.int .u64 s.used) ∧ w.cell? ⟨g, 3, none⟩ = some (.int .u64 s.cap) ∧ w.cell? ⟨g, 4, none⟩ = some (.int .u64 s.bits) ∧ w.cell? ⟨g, 5, none⟩ = some (.int .u64 s.due) :=
  ⟨h.cell 0, h.cell 1, h.cell 2, h.cell 3, h.cell 4, h.cell 5⟩
theorem zero_lease : (Tryd.prog.info? 64).map (fun i => (i.zero, i.size)) = some (some (.agg (lzV ⟨0, 0⟩)), 2) := by kernel_rfl
theorem size_lease : (Tryd.prog.info? 64).map (·.size) = some 2 := by kernel_rfl
theorem zero_stmt : (Tryd.prog.info? 70).map (fun i => (i.zero, i.size)) = some (some (.agg (stV ⟨ByteArray.empty, 0, 0, 0, 0, 0⟩)), 6) := by kernel_rfl
theorem size_stmt : (Tryd.prog.info? 70).map (·.size) = some 6 := by kernel_rfl
theorem lzV_one (l : Lz) : ∀ v ∈ lzV l, v.oneCell' = true := by
  intro v hv; simp [lzV] at hv; rcases hv with rfl | rfl <;> rfl
theorem stV_one (s : St) : ∀ v ∈ stV s, v.oneCell' = true := by
  intro v hv; simp [stV] at hv; rcases hv with rfl | rfl | rfl | rfl | rfl | rfl <;> rfl
def Ac.ok (a : Ac) : Prop := a.ten.size ≤ 1000000 ∧ a.cap < 18446744073709551616 ∧ a.used < 18446744073709551616 ∧ a.bits < 18446744073709551616 ∧ a.per < 18446744073709551616 ∧ (∀ l ∈ a.ls, l.ok) ∧ (∀ s ∈ a.cl, s.ok) ∧ a.ls.length ≤ 100000 ∧ a.cl.length ≤ 100000
theorem drop_cons {α : Type} {xs : List α} {k : Nat} (h : k < xs.length) : xs.drop k = xs[k] :: xs.drop (k + 1) := List.drop_eq_getElem_cons h

set_option maxHeartbeats 8000000 in
theorem aright_calls (a : Ac) (AL AC : Option Addr) (cL cC : Nat) (w : World) (ha : RdA w a AL AC) (hok : a.ok) (hL : Laid w) :
    Calls Tryd.prog 18 #[acA a AL cL AC cC] w (RetV w (.bool (rightB a))) := by
  have HA := Lib.hid ha
  have HL := Lib.hid hL
  have OK := Lib.hid hok
  have u1 := hok.2.2.1
  have l1 := hok.2.2.2.2.2.2.2.1
  have l2 := hok.2.2.2.2.2.2.2.2
  have b1 := hok.2.2.2.1
  have b2 := hok.1
  have HR : Hid (rightB a = (tenantB a.ten.data.toList && plainB a.bits && leasesR a.used 0 a.ls && decide (a.per ≤ 65536) && decide (a.cl.length = a.per) && closedR a.ten 0 a.cl)) := by
    show _ = _
    unfold rightB
    cases leasesR a.used 0 a.ls <;> cases closedR a.ten 0 a.cl <;> cases tenantB a.ten.data.toList <;> cases plainB a.bits <;> cases decide (a.per ≤ 65536) <;> cases decide (a.cl.length = a.per) <;> rfl
  clear ha hL hok
  unfold acA
  go_enter Tryd.func18, Tryd.ntmps18
  go_wp2_with (first
    | ((with_reducible show wpList _ _ _ ({ dst := some 1, op := Op.box 26 _, type := _, pos := _, after := _, guard := _ } :: _) _ _); refine bxA _ rfl 26 _ rfl _ rfl ?_; intro g1 w1 hg hs1 k1 e1; have X1 := Lib.hid k1; have E1 := Lib.hid e1; obtain ⟨a0, a1, a2, a3, a4, a5, a6⟩ := ac_cells X1.out; clear hg hs1 k1 e1))
  refine (tenant_calls a.ten _).mono ?_
  rintro e w2 ⟨rfl, e2⟩
  have X2 := Lib.hid (X1.out.ext e2)
  have E2 := Lib.hid (E1.out.trans e2)
  clear e2 a0 a1 a2 a3 a4 a5 a6 X1 E1
  obtain ⟨a0, a1, a2, a3, a4, a5, a6⟩ := ac_cells X2.out
  cases ht : tenantB a.ten.data.toList with
  | false =>
    have HF : Hid (rightB a = false) := by show _ = _; rw [HR.out, ht]; rfl
    clear ht
    go_wp2_with fail
    go_ret
    rw [HF.out]
    exact ⟨rfl, E2.out⟩
  | true =>
    have Ht := Lib.hid ht
    clear ht
    go_wp2_with fail
    refine (aplain_calls a.bits _ b1).mono ?_
    rintro e w' ⟨rfl, rfl⟩
    cases hp : plainB a.bits with
    | false =>
      have HF : Hid (rightB a = false) := by show _ = _; rw [HR.out, hp, Bool.and_false]; rfl
      clear hp
      go_wp2_with fail
      go_ret
      rw [HF.out]
      exact ⟨rfl, E2.out⟩
    | true =>
      have HR2 : Hid (rightB a = (leasesR a.used 0 a.ls && decide (a.per ≤ 65536) && decide (a.cl.length = a.per) && closedR a.ten 0 a.cl)) := by show _ = _; rw [HR.out, Ht.out, hp]; rfl
      clear hp HR Ht
      go_wp2_with fail
      clear a0 a1 a2 a3 a4 a5 a6
      go_loopw [3, 4, 26] (fun u l i wr => ∃ k U L : Nat, k ≤ a.ls.length ∧ u = .int .u64 U ∧ l = .int .u64 L ∧ i = .int .i64 k ∧ Ext w2 wr ∧ U < 18446744073709551616 ∧ leasesR a.used 0 a.ls = leasesR U L (a.ls.drop k)) (fun _ _ i _ => a.ls.length - (intOf i).toNat)
      case atStart => exact ⟨0, a.used, 0, by omega, rfl, rfl, rfl, Ext.refl _, u1, rfl⟩
      case round =>
        obtain ⟨k, U, L, hk, rfl, rfl, rfl, hE, hU, hr⟩ := hrel
        have Hr := Lib.hid hr
        have E0 := Lib.hid hE
        have F0 := Lib.hid (E2.out.trans hE)
        clear hr hE
        by_cases hlt : k < a.ls.length
        · obtain ⟨ad, rfl, x0, x1⟩ := (HA.out.1.ext F0.out).two hlt
          have HD := Lib.hid (drop_cons hlt)
          have hx := OK.out.2.2.2.2.2.1 _ (List.getElem_mem hlt)
          have k1 : (k : Int) < (a.ls.length : Int) := by omega
          generalize a.ls[k] = x at *
          have z1 := hx.1
          have z2 := hx.2
          clear hx
          have HO : Hid (∀ W, Calls Tryd.prog 63 #[.int .u64 U, .int .u64 x.sz] W fun e w' => e = .returned (.bool (decide (18446744073709551616 ≤ U + x.sz))) ∧ W = w') := fun W => over_calls U x.sz W hU z2
          by_cases c1 : x.id ≤ L
          · have HF : Hid (leasesR a.used 0 a.ls = false) := by
              show _ = _
              rw [Hr.out, HD.out, leasesR, decide_eq_false (by omega)]; rfl
            have q1 : decide (x.id ≤ L) = true := by simpa using c1
            clear c1
            go_wp2_with (first
              | ((with_reducible show wpList _ _ _ ({ dst := some 6, op := Op.alloc 64, type := _, pos := _, after := _, guard := _ } :: _) _ _); refine alA _ rfl 64 rfl _ _ zero_lease ?_; intro g3 w3 hg hs1 k3 e3; have X3 := Lib.hid k3; have E3 := Lib.hid (E0.out.trans e3); have G3 := Lib.hid (show w2.heap.size ≤ g3 from by have := E0.out.size; omega); clear hg hs1 k3 e3 x0 x1)
              | ((with_reducible show wpList _ _ _ ({ dst := none, op := Op.store 64 _ _, type := _, pos := _, after := _, guard := _ } :: _) _ _); refine stA _ rfl 64 64 _ _ rfl g3 _ (lzV x) rfl rfl X3.out size_lease rfl (lzV_one _) ?_; intro w4 hs k4 g4; have E4 := Lib.hid (E3.out.grown g4 (fun k hk => by injection hk with hk; have := G3.out; omega)); obtain ⟨x0, x1⟩ := lz_cells k4; clear hs k4 g4)
              | (go_at_call 63; refine (HO.out _).mono ?_; rintro e w5 ⟨rfl, rfl⟩))
            go_ret
            rw [HR2.out, HF.out]
            exact ⟨rfl, E2.out.trans E4.out⟩
          · by_cases c2 : x.sz = 0
            · have HF : Hid (leasesR a.used 0 a.ls = false) := by
                show _ = _
                rw [Hr.out, HD.out, leasesR, decide_eq_false (show ¬ 0 < x.sz by omega)]; simp
              have q1 : decide (x.id ≤ L) = false := by simpa using c1
              have q2 : ((x.sz : Int) == 0) = true := by rw [c2]; rfl
              clear c1 c2
              go_wp2_with (first
                | ((with_reducible show wpList _ _ _ ({ dst := some 6, op := Op.alloc 64, type := _, pos := _, after := _, guard := _ } :: _) _ _); refine alA _ rfl 64 rfl _ _ zero_lease ?_; intro g3 w3 hg hs1 k3 e3; have X3 := Lib.hid k3; have E3 := Lib.hid (E0.out.trans e3); have G3 := Lib.hid (show w2.heap.size ≤ g3 from by have := E0.out.size; omega); clear hg hs1 k3 e3 x0 x1)
                | ((with_reducible show wpList _ _ _ ({ dst := none, op := Op.store 64 _ _, type := _, pos := _, after := _, guard := _ } :: _) _ _); refine stA _ rfl 64 64 _ _ rfl g3 _ (lzV x) rfl rfl X3.out size_lease rfl (lzV_one _) ?_; intro w4 hs k4 g4; have E4 := Lib.hid (E3.out.grown g4 (fun k hk => by injection hk with hk; have := G3.out; omega)); obtain ⟨x0, x1⟩ := lz_cells k4; clear hs k4 g4)
                | (go_at_call 63; refine (HO.out _).mono ?_; rintro e w5 ⟨rfl, rfl⟩))
              go_ret
              rw [HR2.out, HF.out]
              exact ⟨rfl, E2.out.trans E4.out⟩
            · have q1 : decide (x.id ≤ L) = false := by simpa using c1
              have q2 : ((x.sz : Int) == 0) = false := beq_eq_false_iff_ne.2 (by omega)
              by_cases c3 : 18446744073709551616 ≤ U + x.sz
              · have HF : Hid (leasesR a.used 0 a.ls = false) := by
                  show _ = _
                  rw [Hr.out, HD.out, leasesR, decide_eq_false (show ¬ U + x.sz < 18446744073709551616 by omega)]; simp
                rw [decide_eq_true c3] at HO
                clear c1 c2 c3
                go_wp2_with (first
                  | ((with_reducible show wpList _ _ _ ({ dst := some 6, op := Op.alloc 64, type := _, pos := _, after := _, guard := _ } :: _) _ _); refine alA _ rfl 64 rfl _ _ zero_lease ?_; intro g3 w3 hg hs1 k3 e3; have X3 := Lib.hid k3; have E3 := Lib.hid (E0.out.trans e3); have G3 := Lib.hid (show w2.heap.size ≤ g3 from by have := E0.out.size; omega); clear hg hs1 k3 e3 x0 x1)
                  | ((with_reducible show wpList _ _ _ ({ dst := none, op := Op.store 64 _ _, type := _, pos := _, after := _, guard := _ } :: _) _ _); refine stA _ rfl 64 64 _ _ rfl g3 _ (lzV x) rfl rfl X3.out size_lease rfl (lzV_one _) ?_; intro w4 hs k4 g4; have E4 := Lib.hid (E3.out.grown g4 (fun k hk => by injection hk with hk; have := G3.out; omega)); obtain ⟨x0, x1⟩ := lz_cells k4; clear hs k4 g4)
                  | (go_at_call 63; refine (HO.out _).mono ?_; rintro e w5 ⟨rfl, rfl⟩))
                go_ret
                rw [HR2.out, HF.out]
                exact ⟨rfl, E2.out.trans E4.out⟩
              · have HN : Hid (leasesR a.used 0 a.ls = leasesR (U + x.sz) x.id (a.ls.drop (k + 1))) := by
                  show _ = _
                  rw [Hr.out, HD.out, leasesR, decide_eq_true (show L < x.id by omega), decide_eq_true (show 0 < x.sz by omega), decide_eq_true (show U + x.sz < 18446744073709551616 by omega)]; rfl
                rw [decide_eq_false c3] at HO
                have u5 : IntKind.u64.wrap ((U : Int) + x.sz) = (U : Int) + x.sz := IntWalk.u64_in _ (by omega)
                clear c1 c2
                go_wp2_with (first
                  | ((with_reducible show wpList _ _ _ ({ dst := some 6, op := Op.alloc 64, type := _, pos := _, after := _, guard := _ } :: _) _ _); refine alA _ rfl 64 rfl _ _ zero_lease ?_; intro g3 w3 hg hs1 k3 e3; have X3 := Lib.hid k3; have E3 := Lib.hid (E0.out.trans e3); have G3 := Lib.hid (show w2.heap.size ≤ g3 from by have := E0.out.size; omega); clear hg hs1 k3 e3 x0 x1)
                  | ((with_reducible show wpList _ _ _ ({ dst := none, op := Op.store 64 _ _, type := _, pos := _, after := _, guard := _ } :: _) _ _); refine stA _ rfl 64 64 _ _ rfl g3 _ (lzV x) rfl rfl X3.out size_lease rfl (lzV_one _) ?_; intro w4 hs k4 g4; have E4 := Lib.hid (E3.out.grown g4 (fun k hk => by injection hk with hk; have := G3.out; omega)); obtain ⟨x0, x1⟩ := lz_cells k4; clear hs k4 g4)
                  | (go_at_call 63; refine (HO.out _).mono ?_; rintro e w5 ⟨rfl, rfl⟩))
                go_roundw
                case rel => exact ⟨k + 1, U + x.sz, x.id, by omega, by go_num, rfl, by go_num, E4.out, by omega, HN.out⟩
                case measure => simp [intOf]; omega
        · have HF : Hid (leasesR a.used 0 a.ls = true) := by
            show _ = _
            rw [Hr.out, List.drop_of_length_le (by omega), leasesR]
          clear Hr
          obtain ⟨a0, a1, a2, a3, a4, a5, a6⟩ := ac_cells (X2.out.ext E0.out)
          clear a0 a1 a2 a3 a5
          have u6 : IntKind.u64.wrap (a.cl.length : Int) = (a.cl.length : Int) := IntWalk.u64_in _ (by omega)
          by_cases p1 : 65536 < a.per
          · have HF2 : Hid (rightB a = false) := by
              show _ = _
              rw [HR2.out, HF.out, decide_eq_false (show ¬ a.per ≤ 65536 by omega)]; rfl
            have q1 : decide ((65536 : Int) < (a.per : Int)) = true := by simp; omega
            clear p1
            go_wp2_with fail
            go_ret
            rw [HF2.out]
            exact ⟨rfl, F0.out⟩
          · have q1 : decide ((65536 : Int) < (a.per : Int)) = false := by simp; omega
            by_cases p2 : a.cl.length = a.per
            · have HR3 : Hid (rightB a = closedR a.ten 0 a.cl) := by
                show _ = _
                rw [HR2.out, HF.out, decide_eq_true p2, decide_eq_true (show a.per ≤ 65536 by omega)]; rfl
              have q2 : ((a.cl.length : Int) != (a.per : Int)) = false := by simp [p2]
              have hper : a.cl.length ≤ 65536 := by omega
              clear p1 p2 HR2 HF
              go_wp2_with fail
              clear a4 a6 hlt hk q1 q2
              go_loopw [67] (fun i ws => ∃ j : Nat, j ≤ a.cl.length ∧ i = .int .i64 j ∧ Ext w2 ws ∧ closedR a.ten 0 a.cl = closedR a.ten j (a.cl.drop j)) (fun i _ => a.cl.length - (intOf i).toNat)
              case atStart => exact ⟨0, by omega, rfl, E0.out, rfl⟩
              clear E0 F0
              case round =>
                obtain ⟨j, hj, rfl, hE, hr⟩ := hrel
                have Hr := Lib.hid hr
                have E0 := Lib.hid hE
                have F0 := Lib.hid (E2.out.trans hE)
                clear hr hE
                by_cases hlt : j < a.cl.length
                · obtain ⟨ad, rfl, x0, x1, x2, x3, x4, x5⟩ := (HA.out.2.ext F0.out).six hlt
                  have HC := Lib.hid (drop_cons hlt)
                  have hx := OK.out.2.2.2.2.2.2.1 _ (List.getElem_mem hlt)
                  have k1 : (j : Int) < (a.cl.length : Int) := by omega
                  generalize a.cl[j] = x at *
                  obtain ⟨z1, z2, z3, z4, z5, z6⟩ := hx
                  have HP : Hid (∀ W, Calls Tryd.prog 62 #[.int .u64 x.bits] W fun e w' => e = .returned (.bool (plainB x.bits)) ∧ W = w') := fun W => aplain_calls x.bits W z4
                  have HD : Hid (∀ W, Laid W → Calls Tryd.prog 64 #[.int .u64 x.used, .int .u64 x.bits] W fun e w' => e = .returned (.tuple #[.int .u64 (dueV x.used x.bits), .int .i64 (pcE x.bits)]) ∧ W = w') := fun W hW => due_calls x.used x.bits W z2 z4 hW
                  have HS : Hid (closedR a.ten j (x :: a.cl.drop (j + 1)) = ((prB x.bits && decide (x.due = dueV x.used x.bits) && plainB x.bits && decide (x.ten = a.ten) && decide (x.per = j)) && closedR a.ten (j + 1) (a.cl.drop (j + 1)))) := by show _ = _; rw [closedR]
                  have uj : IntKind.u64.wrap (j : Int) = (j : Int) := IntWalk.u64_in _ (by omega)
                  cases c1 : prB x.bits with
                  | false =>
                    have HF : Hid (closedR a.ten 0 a.cl = false) := by show _ = _; rw [Hr.out, HC.out, HS.out, c1]; rfl
                    rw [pcE_bad c1] at HD
                    clear c1
                    go_wp2_with (first
                      | ((with_reducible show wpList _ _ _ ({ dst := some 8, op := Op.alloc 70, type := _, pos := _, after := _, guard := _ } :: _) _ _); refine alA _ rfl 70 rfl _ _ zero_stmt ?_; intro g5 w5 hg hs1 k5 e5; have X5 := Lib.hid k5; have E5 := Lib.hid (E0.out.trans e5); have G5 := Lib.hid (show w2.heap.size ≤ g5 from by have := E0.out.size; omega); clear hg hs1 k5 e5 x0 x1 x2 x3 x4 x5)
                      | ((with_reducible show wpList _ _ _ ({ dst := none, op := Op.store 70 _ _, type := _, pos := _, after := _, guard := _ } :: _) _ _); refine stA _ rfl 70 70 _ _ rfl g5 _ (stV x) rfl rfl X5.out size_stmt rfl (stV_one _) ?_; intro w6 hs k6 g6; have E6 := Lib.hid (E5.out.grown g6 (fun k hk => by injection hk with hk; have := G5.out; omega)); obtain ⟨x0, x1, x2, x3, x4, x5⟩ := st_cells k6; obtain ⟨a0, a1, a2, a3, a4, a5, a6⟩ := ac_cells (X2.out.ext E6.out); clear hs k6 g6 a1 a2 a3 a4 a5 a6)
                      | (go_at_call 64; refine (HD.out _ (HL.out.ext (E2.out.trans E6.out))).mono ?_; rintro e w7 ⟨rfl, rfl⟩)
                      | (go_at_call 62; refine (HP.out _).mono ?_; rintro e w7 ⟨rfl, rfl⟩))
                    go_ret
                    rw [HR3.out, HF.out]
                    exact ⟨rfl, E2.out.trans E6.out⟩
                  | true =>
                    rw [pcE_ok c1] at HD
                    by_cases c2 : x.due = dueV x.used x.bits
                    · have q2 : ((dueV x.used x.bits : Int) != (x.due : Int)) = false := by simp [c2]
                      cases c3 : plainB x.bits with
                      | false =>
                        have HF : Hid (closedR a.ten 0 a.cl = false) := by show _ = _; rw [Hr.out, HC.out, HS.out, c3]; simp
                        rw [c3] at HP
                        clear c1 c2 c3
                        go_wp2_with (first
                          | ((with_reducible show wpList _ _ _ ({ dst := some 8, op := Op.alloc 70, type := _, pos := _, after := _, guard := _ } :: _) _ _); refine alA _ rfl 70 rfl _ _ zero_stmt ?_; intro g5 w5 hg hs1 k5 e5; have X5 := Lib.hid k5; have E5 := Lib.hid (E0.out.trans e5); have G5 := Lib.hid (show w2.heap.size ≤ g5 from by have := E0.out.size; omega); clear hg hs1 k5 e5 x0 x1 x2 x3 x4 x5)
                          | ((with_reducible show wpList _ _ _ ({ dst := none, op := Op.store 70 _ _, type := _, pos := _, after := _, guard := _ } :: _) _ _); refine stA _ rfl 70 70 _ _ rfl g5 _ (stV x) rfl rfl X5.out size_stmt rfl (stV_one _) ?_; intro w6 hs k6 g6; have E6 := Lib.hid (E5.out.grown g6 (fun k hk => by injection hk with hk; have := G5.out; omega)); obtain ⟨x0, x1, x2, x3, x4, x5⟩ := st_cells k6; obtain ⟨a0, a1, a2, a3, a4, a5, a6⟩ := ac_cells (X2.out.ext E6.out); clear hs k6 g6 a1 a2 a3 a4 a5 a6)
                          | (go_at_call 64; refine (HD.out _ (HL.out.ext (E2.out.trans E6.out))).mono ?_; rintro e w7 ⟨rfl, rfl⟩)
                          | (go_at_call 62; refine (HP.out _).mono ?_; rintro e w7 ⟨rfl, rfl⟩))
                        go_ret
                        rw [HR3.out, HF.out]
                        exact ⟨rfl, E2.out.trans E6.out⟩
                      | true =>
                        rw [c3] at HP
                        by_cases c4 : x.ten = a.ten
                        · have q4 : x.ten.toList = a.ten.toList := by rw [c4]
                          by_cases c5 : x.per = j
                          · have HN : Hid (closedR a.ten 0 a.cl = closedR a.ten (j + 1) (a.cl.drop (j + 1))) := by
                              show _ = _
                              rw [Hr.out, HC.out, HS.out, c1, c3, decide_eq_true c2, decide_eq_true c4, decide_eq_true c5]; rfl
                            have q6 : ((x.per : Int) != (j : Int)) = false := by simp [c5]
                            clear c1 c2 c3 c4 c5
                            go_wp2_with (first
                              | ((with_reducible show wpList _ _ _ ({ dst := some 8, op := Op.alloc 70, type := _, pos := _, after := _, guard := _ } :: _) _ _); refine alA _ rfl 70 rfl _ _ zero_stmt ?_; intro g5 w5 hg hs1 k5 e5; have X5 := Lib.hid k5; have E5 := Lib.hid (E0.out.trans e5); have G5 := Lib.hid (show w2.heap.size ≤ g5 from by have := E0.out.size; omega); clear hg hs1 k5 e5 x0 x1 x2 x3 x4 x5)
                              | ((with_reducible show wpList _ _ _ ({ dst := none, op := Op.store 70 _ _, type := _, pos := _, after := _, guard := _ } :: _) _ _); refine stA _ rfl 70 70 _ _ rfl g5 _ (stV x) rfl rfl X5.out size_stmt rfl (stV_one _) ?_; intro w6 hs k6 g6; have E6 := Lib.hid (E5.out.grown g6 (fun k hk => by injection hk with hk; have := G5.out; omega)); obtain ⟨x0, x1, x2, x3, x4, x5⟩ := st_cells k6; obtain ⟨a0, a1, a2, a3, a4, a5, a6⟩ := ac_cells (X2.out.ext E6.out); clear hs k6 g6 a1 a2 a3 a4 a5 a6)
                              | (go_at_call 64; refine (HD.out _ (HL.out.ext (E2.out.trans E6.out))).mono ?_; rintro e w7 ⟨rfl, rfl⟩)
                              | (go_at_call 62; refine (HP.out _).mono ?_; rintro e w7 ⟨rfl, rfl⟩))
                            go_roundw
                            case rel => exact ⟨j + 1, by omega, by go_num, E6.out, HN.out⟩
                            case measure => simp [intOf]; omega
                          · have HF : Hid (closedR a.ten 0 a.cl = false) := by show _ = _; rw [Hr.out, HC.out, HS.out, decide_eq_false c5]; simp
                            have q6 : ((x.per : Int) != (j : Int)) = true := by simp; omega
                            clear c1 c2 c3 c4 c5
                            go_wp2_with (first
                              | ((with_reducible show wpList _ _ _ ({ dst := some 8, op := Op.alloc 70, type := _, pos := _, after := _, guard := _ } :: _) _ _); refine alA _ rfl 70 rfl _ _ zero_stmt ?_; intro g5 w5 hg hs1 k5 e5; have X5 := Lib.hid k5; have E5 := Lib.hid (E0.out.trans e5); have G5 := Lib.hid (show w2.heap.size ≤ g5 from by have := E0.out.size; omega); clear hg hs1 k5 e5 x0 x1 x2 x3 x4 x5)
                              | ((with_reducible show wpList _ _ _ ({ dst := none, op := Op.store 70 _ _, type := _, pos := _, after := _, guard := _ } :: _) _ _); refine stA _ rfl 70 70 _ _ rfl g5 _ (stV x) rfl rfl X5.out size_stmt rfl (stV_one _) ?_; intro w6 hs k6 g6; have E6 := Lib.hid (E5.out.grown g6 (fun k hk => by injection hk with hk; have := G5.out; omega)); obtain ⟨x0, x1, x2, x3, x4, x5⟩ := st_cells k6; obtain ⟨a0, a1, a2, a3, a4, a5, a6⟩ := ac_cells (X2.out.ext E6.out); clear hs k6 g6 a1 a2 a3 a4 a5 a6)
                              | (go_at_call 64; refine (HD.out _ (HL.out.ext (E2.out.trans E6.out))).mono ?_; rintro e w7 ⟨rfl, rfl⟩)
                              | (go_at_call 62; refine (HP.out _).mono ?_; rintro e w7 ⟨rfl, rfl⟩))
                            go_ret
                            rw [HR3.out, HF.out]
                            exact ⟨rfl, E2.out.trans E6.out⟩
                        · have HF : Hid (closedR a.ten 0 a.cl = false) := by show _ = _; rw [Hr.out, HC.out, HS.out, decide_eq_false c4]; simp
                          have q4 : ¬ x.ten.toList = a.ten.toList := by rw [str_eq]; exact c4
                          clear c1 c2 c3 c4
                          go_wp2_with (first
                            | ((with_reducible show wpList _ _ _ ({ dst := some 8, op := Op.alloc 70, type := _, pos := _, after := _, guard := _ } :: _) _ _); refine alA _ rfl 70 rfl _ _ zero_stmt ?_; intro g5 w5 hg hs1 k5 e5; have X5 := Lib.hid k5; have E5 := Lib.hid (E0.out.trans e5); have G5 := Lib.hid (show w2.heap.size ≤ g5 from by have := E0.out.size; omega); clear hg hs1 k5 e5 x0 x1 x2 x3 x4 x5)
                            | ((with_reducible show wpList _ _ _ ({ dst := none, op := Op.store 70 _ _, type := _, pos := _, after := _, guard := _ } :: _) _ _); refine stA _ rfl 70 70 _ _ rfl g5 _ (stV x) rfl rfl X5.out size_stmt rfl (stV_one _) ?_; intro w6 hs k6 g6; have E6 := Lib.hid (E5.out.grown g6 (fun k hk => by injection hk with hk; have := G5.out; omega)); obtain ⟨x0, x1, x2, x3, x4, x5⟩ := st_cells k6; obtain ⟨a0, a1, a2, a3, a4, a5, a6⟩ := ac_cells (X2.out.ext E6.out); clear hs k6 g6 a1 a2 a3 a4 a5 a6)
                            | (go_at_call 64; refine (HD.out _ (HL.out.ext (E2.out.trans E6.out))).mono ?_; rintro e w7 ⟨rfl, rfl⟩)
                            | (go_at_call 62; refine (HP.out _).mono ?_; rintro e w7 ⟨rfl, rfl⟩))
                          go_ret
                          rw [HR3.out, HF.out]
                          exact ⟨rfl, E2.out.trans E6.out⟩
                    · have HF : Hid (closedR a.ten 0 a.cl = false) := by show _ = _; rw [Hr.out, HC.out, HS.out, decide_eq_false c2]; simp
                      have q2 : ((dueV x.used x.bits : Int) != (x.due : Int)) = true := by simp; omega
                      clear c1 c2
                      go_wp2_with (first
                        | ((with_reducible show wpList _ _ _ ({ dst := some 8, op := Op.alloc 70, type := _, pos := _, after := _, guard := _ } :: _) _ _); refine alA _ rfl 70 rfl _ _ zero_stmt ?_; intro g5 w5 hg hs1 k5 e5; have X5 := Lib.hid k5; have E5 := Lib.hid (E0.out.trans e5); have G5 := Lib.hid (show w2.heap.size ≤ g5 from by have := E0.out.size; omega); clear hg hs1 k5 e5 x0 x1 x2 x3 x4 x5)
                        | ((with_reducible show wpList _ _ _ ({ dst := none, op := Op.store 70 _ _, type := _, pos := _, after := _, guard := _ } :: _) _ _); refine stA _ rfl 70 70 _ _ rfl g5 _ (stV x) rfl rfl X5.out size_stmt rfl (stV_one _) ?_; intro w6 hs k6 g6; have E6 := Lib.hid (E5.out.grown g6 (fun k hk => by injection hk with hk; have := G5.out; omega)); obtain ⟨x0, x1, x2, x3, x4, x5⟩ := st_cells k6; obtain ⟨a0, a1, a2, a3, a4, a5, a6⟩ := ac_cells (X2.out.ext E6.out); clear hs k6 g6 a1 a2 a3 a4 a5 a6)
                        | (go_at_call 64; refine (HD.out _ (HL.out.ext (E2.out.trans E6.out))).mono ?_; rintro e w7 ⟨rfl, rfl⟩)
                        | (go_at_call 62; refine (HP.out _).mono ?_; rintro e w7 ⟨rfl, rfl⟩))
                      go_ret
                      rw [HR3.out, HF.out]
                      exact ⟨rfl, E2.out.trans E6.out⟩
                · have HF : Hid (closedR a.ten 0 a.cl = true) := by
                    show _ = _
                    rw [Hr.out, List.drop_of_length_le (by omega), closedR]
                  go_wp2_with fail
                  go_ret
                  rw [HR3.out, HF.out]
                  exact ⟨rfl, F0.out⟩
            · have HF2 : Hid (rightB a = false) := by
                show _ = _
                rw [HR2.out, decide_eq_false p2, Bool.and_false]; rfl
              have q2 : ((a.cl.length : Int) != (a.per : Int)) = true := by simp; omega
              clear p1 p2
              go_wp2_with fail
              go_ret
              rw [HF2.out]
              exact ⟨rfl, F0.out⟩
end Go.Proofs.YtkbjnlbbfapgdaaDoor
