/- ref29.Tick, Keys; ref27.Same. -/
import Derived.Test.YtlgngnkaiidbeaaIdleE
import Derived.Test.YtlgngnkaiidbeaaStepW
import Derived.Laws.StructEq
import Derived.Deep.RegionHeld3
set_option maxRecDepth 100000
set_option linter.unusedVariables false
set_option linter.unusedSimpArgs false
namespace Go.Proofs.Ytlgngnkaiidbeaa
open Go.RowKit Go.Shelf

def rkV (q : PE) : Array Value := #[.int .i64 q.1.1, .int .i64 q.1.2, .int .i64 (q.2 : Int)]
theorem rk_cells {w : World} {g : Nat} {t : TypeId} {q : PE} (h : Arr w g t (rkV q)) : w.cell? ⟨g, 0, none⟩ = some (.int .i64 q.1.1) ∧ w.cell? ⟨g, 1, none⟩ = some (.int .i64 q.1.2) ∧ w.cell? ⟨g, 2, none⟩ = some (.int .i64 (q.2 : Int)) := ⟨h.cell_some rfl, h.cell_some rfl, h.cell_some rfl⟩
theorem rkV_one (q : PE) : ∀ v ∈ rkV q, v.oneCell' = true := by
  intro v hv
  simp [rkV] at hv
  rcases hv with rfl | rfl | rfl <;> rfl
theorem zero_rk : (Try.prog.info? 139).map (fun i => (i.zero, i.size)) = some (some (.agg #[.int .i64 0, .int .i64 0, .int .i64 0]), 3) := by kernel_rfl
theorem size_rk : (Try.prog.info? 139).map (·.size) = some 3 := by kernel_rfl
theorem size_int29 : (Try.prog.info? 3).map (·.size) = some 1 := by kernel_rfl
theorem nePr (p q : PK) (w : World) : (binOp .neq 89 (.agg #[.int .i64 p.1, .int .i64 p.2]) (.agg #[.int .i64 q.1, .int .i64 q.2])).run Try.prog w = .ok (.bool (!decide (p = q))) w := by
  have h := pairK.eq p.1 p.2 q.1 q.2 w
  have e : (decide (p.1 = q.1) && decide (p.2 = q.2)) = decide (p = q) := by
    rw [Bool.eq_iff_iff]; simp [Prod.ext_iff]
  have h2 : (Op.equalIn 10000 89 (.agg #[.int .i64 p.1, .int .i64 p.2]) (.agg #[.int .i64 q.1, .int .i64 q.2])).run Try.prog w = _ := h
  rw [run_neq_struct, h2, e]; rfl
theorem own_ne_own {w : World} {base base' : Nat} {e e' : TypeId} {size size' n n' c c' : Nat} {A B : Option Addr} {xs ys : List Value} (h : OwnV w base e size A n c xs) (k : OwnV w base' e' size' B n' c' ys) (hne : e ≠ e') : blk A = none ∨ blk A ≠ blk B := by
  rcases h.2 with ⟨hv, _⟩ | ⟨g, cap, cur, hv, _, hh, _⟩
  · injection hv with hA _ _; subst hA; exact .inl rfl
  · right
    intro hb
    injection hv with hA _ _
    subst hA
    rcases k.2 with ⟨hv2, _⟩ | ⟨g2, cap2, cur2, hv2, _, hh2, _⟩
    · injection hv2 with hB _ _; subst hB; simp [blk] at hb
    · injection hv2 with hB _ _
      subst hB
      simp [blk] at hb
      subst hb
      rw [hh] at hh2
      injection hh2 with hh2
      injection hh2 with _ h9 _
      exact hne h9
set_option maxHeartbeats 8000000 in
theorem rtick_calls (A : Option Addr) (c : Nat) (xs : PL) (w : World) (hb : RdE rkC w A xs) (hl : xs.length ≤ 100000) (hag : ∀ q ∈ xs, q.2 ≤ 1000000) :
    Calls Try.prog 52 #[.slice A xs.length c] w fun e w' => ∃ A1 c1 A2 c2, e = .returned (.tuple #[.slice A1 (stayP xs).length c1, .slice A2 (toldP xs).length c2]) ∧ OwnV w' w.heap.size 139 3 A1 (stayP xs).length c1 ((stayP xs).flatMap rkC) ∧ OwnV w' w.heap.size 89 2 A2 (toldP xs).length c2 ((toldP xs).flatMap prC) ∧ Ext w w' := by
  have HB := Lib.hid hb
  have HAG := Lib.hid hag
  clear hb hag
  go_enter Try.func52, Try.ntmps52
  go_wp2_with fail
  go_loopw [4, 5, 6] (fun o t i wr => ∃ k : Nat, ∃ A3 c3 A4 c4, ∃ out : PL, ∃ td : List PK, k ≤ xs.length ∧ i = .int .i64 (k : Int) ∧ o = .slice A3 out.length c3 ∧ t = .slice A4 td.length c4 ∧ out.length ≤ k ∧ td.length ≤ k ∧ (out = stayP (xs.take k) ∧ td = toldP (xs.take k)) ∧ OwnV wr w.heap.size 139 3 A3 out.length c3 (out.flatMap rkC) ∧ OwnV wr w.heap.size 89 2 A4 td.length c4 (td.flatMap prC) ∧ Ext w wr) (fun _ _ i _ => xs.length - (intOf i).toNat)
  case atStart => exact ⟨0, none, 0, none, 0, [], [], by omega, rfl, rfl, rfl, Nat.le_refl _, Nat.le_refl _, ⟨rfl, rfl⟩, OwnV.nil _ _ _ _, OwnV.nil _ _ _ _, Ext.refl _⟩
  case round =>
    obtain ⟨k, A3, c3, A4, c4, out, td, hk, rfl, rfl, rfl, hol, htl, hst, o3, o4, e3⟩ := hrel
    have HST := Lib.hid hst
    have O3 := Lib.hid o3
    have O4 := Lib.hid o4
    have E3 := Lib.hid e3
    have HOL := Lib.hid (And.intro hol htl)
    have hol : out.length ≤ 100000 := by omega
    have htl : td.length ≤ 100000 := by omega
    have NE : Hid (blk A3 = none ∨ blk A3 ≠ blk A4) := Lib.hid (own_ne_own O3.out O4.out (by decide))
    clear hst o3 o4 e3
    by_cases hlt : k < xs.length
    · have k1 : (k : Int) < (xs.length : Int) := by omega
      have HT := Lib.hid (take1 hlt)
      have HA2 := Lib.hid (HAG.out _ (List.getElem_mem hlt))
      obtain ⟨ad, rfl, x0, x1, x2⟩ := RdE.rk (show RdE rkC wr A xs from HB.out.ext E3.out) hlt
      generalize xs[k] = q at *
      obtain ⟨⟨x, y⟩, g⟩ := q
      dsimp only at x0 x1 x2
      obtain ⟨m, hm⟩ : ∃ m, m = g + 1 := ⟨_, rfl⟩
      have u1 : IntKind.i64.wrap ((g : Int) + 1) = (m : Int) := by have := HA2.out; dsimp only at this; rw [IntWalk.i64_in _ (by omega)]; omega
      by_cases h10 : 10 ≤ m
      · have h10i : (10 : Int) ≤ (m : Int) := by omega
        have HN : Hid (out = stayP (xs.take (k + 1)) ∧ td ++ [(x, y)] = toldP (xs.take (k + 1))) := by
          rw [HT.out]
          obtain ⟨a, b⟩ := (tick_snoc (xs.take k) ((x, y), g)).1 (by dsimp only; omega)
          exact ⟨by rw [a, HST.out.1], by rw [b, HST.out.2]⟩
        clear h10 hm HT HST
        go_wp2_with (first | ((with_reducible show wpList _ _ _ ({ dst := some 7, op := Op.alloc 139, type := _, pos := _, after := _, guard := _ } :: _) _ _); refine alA _ rfl 139 rfl _ _ zero_rk ?_; intro g7 w7 hg hs1 k3 e3; have X7 := Lib.hid k3; have T7 := Lib.hid e3; have G7 := Lib.hid (Nat.le_of_eq hg); clear hg hs1 k3 e3) | ((with_reducible show wpList _ _ _ ({ dst := none, op := Op.store 139 _ _, type := _, pos := _, after := _, guard := _ } :: _) _ _); refine stA _ rfl 139 139 _ _ rfl g7 _ (rkV ((x, y), g)) rfl rfl X7.out size_rk rfl (rkV_one _) ?_; intro w8 hs k4 g4; have T8 := Lib.hid (show Ext wr w8 from T7.out.grown g4 (fun k hk => by injection hk with hk; have := G7.out; omega)); have X8 := Lib.hid k4; obtain ⟨y0, y1, y2⟩ := rk_cells k4; clear hs k4 g4 x0 x1 x2) | ((with_reducible show wpList _ _ _ ({ dst := none, op := Op.store 3 _ _, type := _, pos := _, after := _, guard := _ } :: _) _ _); refine stF _ rfl 3 _ _ rfl g7 2 (.int .i64 (m : Int)) 139 _ rfl rfl X8.out (Nat.lt_succ_self _) size_int29 rfl ?_; intro w9 hs2 k2 g2; have T9 := Lib.hid (show Ext wr w9 from T8.out.grown g2 (fun k hk => by injection hk with hk; have := G7.out; omega)); have X9 := Lib.hid (show Arr w9 g7 139 (rkV ((x, y), m)) from k2); clear y0 y1 y2; obtain ⟨y0, y1, y2⟩ := rk_cells (show Arr w9 g7 139 (rkV ((x, y), m)) from k2); clear hs2 k2 g2) | (at_builtin; refine appN _ rfl (.tmp 25) (.tmp 31) 82 rfl 89 (.agg #[.int .i64 0, .int .i64 0]) 2 16 Try.underlying82 info_pair rfl (by decide) w.heap.size A4 td.length c4 (td.flatMap prC) rfl (some ⟨w9.heap.size, 0, none⟩) 1 1 (prC (x, y)) rfl (td.length + 1) (td.flatMap prC ++ prC (x, y)) ?_ rfl rfl ((O4.out.ext T9.out).ext ((Ext.refl _).alloc _)) rfl (Arr.new _ _ _).rd (pr_one1 _) (by omega) (by omega) (by have := E3.out.size; have := T9.out.size; simp; omega); intro A8 c8 wa h8 g8 b8; have O8 := Lib.hid h8; have Ea := Lib.hid (((E3.out.trans T9.out).trans ((Ext.refl _).alloc _)).grown g8 (fun k hk => (O4.out.base_ k hk).1)); have O3a := Lib.hid (((O3.out.ext T9.out).ext ((Ext.refl _).alloc _)).keep g8 NE.out); clear h8 g8 b8))
        go_roundw
        case rel => exact ⟨k + 1, A3, c3, A8, c8, out, td ++ [(x, y)], by omega, by go_num, rfl, by simp, by have := HOL.out; omega, by have := HOL.out; rw [List.length_append, List.length_singleton]; omega, HN.out, O3a.out, by simpa using O8.out, Ea.out⟩
        case measure => simp [intOf]; omega
      · have h10i : ¬ (10 : Int) ≤ (m : Int) := by omega
        have HN : Hid (out ++ [((x, y), m)] = stayP (xs.take (k + 1)) ∧ td = toldP (xs.take (k + 1))) := by
          rw [HT.out]
          obtain ⟨a, b⟩ := (tick_snoc (xs.take k) ((x, y), g)).2 (by dsimp only; omega)
          exact ⟨by rw [a, HST.out.1, hm], by rw [b, HST.out.2]⟩
        have NE2 : Hid (blk A4 = none ∨ blk A4 ≠ blk A3) := Lib.hid (own_ne_own O4.out O3.out (by decide))
        clear h10 hm HT HST NE
        go_wp2_with (first | ((with_reducible show wpList _ _ _ ({ dst := some 7, op := Op.alloc 139, type := _, pos := _, after := _, guard := _ } :: _) _ _); refine alA _ rfl 139 rfl _ _ zero_rk ?_; intro g7 w7 hg hs1 k3 e3; have X7 := Lib.hid k3; have T7 := Lib.hid e3; have G7 := Lib.hid (Nat.le_of_eq hg); clear hg hs1 k3 e3) | ((with_reducible show wpList _ _ _ ({ dst := none, op := Op.store 139 _ _, type := _, pos := _, after := _, guard := _ } :: _) _ _); refine stA _ rfl 139 139 _ _ rfl g7 _ (rkV ((x, y), g)) rfl rfl X7.out size_rk rfl (rkV_one _) ?_; intro w8 hs k4 g4; have T8 := Lib.hid (show Ext wr w8 from T7.out.grown g4 (fun k hk => by injection hk with hk; have := G7.out; omega)); have X8 := Lib.hid k4; obtain ⟨y0, y1, y2⟩ := rk_cells k4; clear hs k4 g4 x0 x1 x2) | ((with_reducible show wpList _ _ _ ({ dst := none, op := Op.store 3 _ _, type := _, pos := _, after := _, guard := _ } :: _) _ _); refine stF _ rfl 3 _ _ rfl g7 2 (.int .i64 (m : Int)) 139 _ rfl rfl X8.out (Nat.lt_succ_self _) size_int29 rfl ?_; intro w9 hs2 k2 g2; have T9 := Lib.hid (show Ext wr w9 from T8.out.grown g2 (fun k hk => by injection hk with hk; have := G7.out; omega)); have X9 := Lib.hid (show Arr w9 g7 139 (rkV ((x, y), m)) from k2); clear y0 y1 y2; obtain ⟨y0, y1, y2⟩ := rk_cells (show Arr w9 g7 139 (rkV ((x, y), m)) from k2); clear hs2 k2 g2) | (at_builtin; refine appN _ rfl (.tmp 33) (.tmp 35) 75 rfl 139 (.agg #[.int .i64 0, .int .i64 0, .int .i64 0]) 3 24 Try.underlying75 info_rk rfl (by decide) w.heap.size A3 out.length c3 (out.flatMap rkC) rfl (some ⟨w9.heap.size, 0, none⟩) 1 1 (rkC ((x, y), m)) rfl (out.length + 1) (out.flatMap rkC ++ rkC ((x, y), m)) ?_ rfl rfl ((O3.out.ext T9.out).ext ((Ext.refl _).alloc _)) rfl (Arr.new _ _ _).rd (rk_one1 _) (by omega) (by omega) (by have := E3.out.size; have := T9.out.size; simp; omega); intro A8 c8 wa h8 g8 b8; have O8 := Lib.hid h8; have Ea := Lib.hid (((E3.out.trans T9.out).trans ((Ext.refl _).alloc _)).grown g8 (fun k hk => (O3.out.base_ k hk).1)); have O4a := Lib.hid (((O4.out.ext T9.out).ext ((Ext.refl _).alloc _)).keep g8 NE2.out); clear h8 g8 b8))
        go_roundw
        case rel => exact ⟨k + 1, A8, c8, A4, c4, out ++ [((x, y), m)], td, by omega, by go_num, by simp, rfl, by have := HOL.out; rw [List.length_append, List.length_singleton]; omega, by have := HOL.out; omega, HN.out, by simpa using O8.out, O4a.out, Ea.out⟩
        case measure => simp [intOf]; omega
    · have k1 : ¬ (k : Int) < (xs.length : Int) := by omega
      have HE : Hid (out = stayP xs ∧ td = toldP xs) := by have := HST.out; rwa [List.take_of_length_le (by omega)] at this
      go_wp2_with fail
      go_ret2
      obtain ⟨he, hf⟩ := HE.out
      subst he hf
      exact ⟨A3, c3, A4, c4, rfl, O3.out, O4.out, E3.out⟩
set_option maxHeartbeats 8000000 in
theorem rkeys_calls (A : Option Addr) (c : Nat) (xs : PL) (w : World) (hb : RdE rkC w A xs) (hl : xs.length ≤ 100000) :
    Calls Try.prog 56 #[.slice A xs.length c] w fun e w' => ∃ A' c', e = .returned (.slice A' (keysP xs).length c') ∧ OwnV w' w.heap.size 89 2 A' (keysP xs).length c' ((keysP xs).flatMap prC) ∧ Ext w w' := by
  have HB := Lib.hid hb
  clear hb
  go_enter Try.func56, Try.ntmps56
  go_wp2_with fail
  go_loopw [3, 4] (fun o i wr => ∃ k : Nat, ∃ A3 c3, ∃ out : List PK, k ≤ xs.length ∧ i = .int .i64 (k : Int) ∧ o = .slice A3 out.length c3 ∧ out.length ≤ k ∧ out = keysP (xs.take k) ∧ OwnV wr w.heap.size 89 2 A3 out.length c3 (out.flatMap prC) ∧ Ext w wr) (fun _ i _ => xs.length - (intOf i).toNat)
  case atStart => exact ⟨0, none, 0, [], by omega, rfl, rfl, Nat.le_refl _, rfl, OwnV.nil _ _ _ _, Ext.refl _⟩
  case round =>
    obtain ⟨k, A3, c3, out, hk, rfl, rfl, hol, hst, o3, e3⟩ := hrel
    have HST := Lib.hid hst
    have O3 := Lib.hid o3
    have E3 := Lib.hid e3
    have HOL := Lib.hid hol
    have hol : out.length ≤ 100000 := by omega
    clear hst o3 e3
    by_cases hlt : k < xs.length
    · have k1 : (k : Int) < (xs.length : Int) := by omega
      have HT := Lib.hid (take1 hlt)
      have HXC : Hid (∃ ad, A = some ad ∧ ∀ W, Ext w W → W.cell? (ad.add (k * 3)) = some (.int .i64 xs[k].1.1) ∧ W.cell? ⟨(ad.add (k * 3)).block, (ad.add (k * 3)).off + 1, none⟩ = some (.int .i64 xs[k].1.2)) := by
        obtain ⟨ad, ha, _⟩ := RdE.rk HB.out hlt
        refine ⟨ad, ha, fun W hW => ?_⟩
        obtain ⟨ad', ha', h⟩ := RdE.rk (show RdE rkC W A xs from HB.out.ext hW) hlt
        rw [ha] at ha'
        cases ha'
        exact ⟨h.1, h.2.1⟩
      obtain ⟨ad, rfl, hx⟩ := HXC.out
      have HX := Lib.hid hx
      clear HXC hx
      generalize xs[k] = q at *
      obtain ⟨⟨x, y⟩, g⟩ := q
      dsimp only at HX
      have HN : Hid (out ++ [(x, y)] = keysP (xs.take (k + 1))) := by
        show _ = _
        rw [HT.out, keys_snoc, ← HST.out]
      clear HT HST
      obtain ⟨x0, x1⟩ := HX.out _ E3.out
      have KS : Hid (∀ W, Ext w W → Ext w W ∧ W.cell? (ad.add (k * 3)) = some (.int .i64 x) ∧ W.cell? ⟨(ad.add (k * 3)).block, (ad.add (k * 3)).off + 1, none⟩ = some (.int .i64 y)) := fun W e => ⟨e, HX.out W e⟩
      go_wp2_with fail
      go_region_held3 (fun w' => Ext w w' ∧ w'.cell? (ad.add (k * 3)) = some (.int .i64 x) ∧ w'.cell? ⟨(ad.add (k * 3)).block, (ad.add (k * 3)).off + 1, none⟩ = some (.int .i64 y))
        (first | exact KS.out _ E3.out.drew | exact KS.out _ (E3.out.alloc _).drew | exact KS.out _ (E3.out.drew.alloc _) | exact KS.out _ E8.out)
        ((refine stepW _ (by rfl) (.tmp 11) (.tmp 23) 82 (by rfl) 89 (.agg #[.int .i64 0, .int .i64 0]) 2 16 Try.underlying82 info_pair rfl (by decide) w.heap.size A3 out.length c3 (out.flatMap prC) (by rfl) ⟨wr.drew.heap.size, 0, none⟩ 1 1 (prC (x, y)) (by rfl) ?_ ((O3.out.ext (Ext.refl wr).drew).ext ((Ext.refl _).alloc _)) rfl (cells_newW wr.drew _ _) (pr_one1 (x, y)) (by omega) (by omega) (by have := E3.out.size; simp; omega); intro A8 c8 w8 h8 g8 b8; have O8 := Lib.hid h8; have E8 := Lib.hid ((E3.out.trans (((Ext.refl wr).drew).trans ((Ext.refl _).alloc _))).grown g8 (fun k hk => (O3.out.base_ k hk).1)); clear h8 g8 b8))
      go_wp2_with fail
      go_roundw
      case rel => exact ⟨k + 1, A8, c8, out ++ [(x, y)], by omega, by go_num, by simp, by have := HOL.out; rw [List.length_append, List.length_singleton]; omega, HN.out, by simpa using O8.out, E8.out⟩
      case measure => simp [intOf]; omega
    · have k1 : ¬ (k : Int) < (xs.length : Int) := by omega
      have HE : Hid (out = keysP xs) := by have := HST.out; rwa [List.take_of_length_le (by omega)] at this
      go_wp2_with fail
      go_ret
      have he := HE.out
      subst he
      exact ⟨A3, c3, rfl, O3.out, E3.out⟩
set_option maxHeartbeats 4000000 in
/-- two lists that are the same -/
theorem rsameP_calls (A B : Option Addr) (c d : Nat) (xs : List PK) (w : World) (ha : RdE prC w A xs) (hb : RdE prC w B xs) (hl : xs.length ≤ 100000) :
    Calls Try.prog 53 #[.slice A xs.length c, .slice B xs.length d] w (RetV w (.bool true)) := by
  have HA := Lib.hid ha
  have HB := Lib.hid hb
  clear ha hb
  go_enter Try.func53, Try.ntmps53
  go_wp2_with fail
  go_loopw [5] (fun i wr => ∃ k : Nat, k ≤ xs.length ∧ i = .int .i64 k ∧ Ext w wr) (fun i _ => xs.length - (intOf i).toNat)
  case atStart => exact ⟨0, by omega, rfl, Ext.refl _⟩
  case round =>
    obtain ⟨k, hk, rfl, hE⟩ := hrel
    have E0 := Lib.hid hE
    clear hE
    by_cases hlt : k < xs.length
    · obtain ⟨ad, rfl, a0, a1⟩ := RdE.pair (show RdE prC wr A xs from HA.out.ext E0.out) hlt
      obtain ⟨bd, rfl, b0, b1⟩ := RdE.pair (show RdE prC wr B xs from HB.out.ext E0.out) hlt
      generalize xs[k] = x at *
      have k1 : (k : Int) < (xs.length : Int) := by omega
      have hne := nePr x x
      rw [decide_eq_true rfl] at hne
      go_wp2_with fail
      go_quiet (fail)
      have E1 := Lib.hid (E0.out.drewN nq)
      go_wp2_with fail
      go_roundw
      case rel => exact ⟨k + 1, by omega, by go_num, E1.out⟩
      case measure => simp [intOf]; omega
    · have k1 : ¬ (k : Int) < (xs.length : Int) := by omega
      go_wp2_with fail
      go_ret
      exact ⟨rfl, E0.out⟩
end Go.Proofs.Ytlgngnkaiidbeaa
