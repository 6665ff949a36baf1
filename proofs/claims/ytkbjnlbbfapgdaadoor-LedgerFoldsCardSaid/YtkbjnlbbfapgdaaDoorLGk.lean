/- ref15.Size, Room. ref15.Check. ref15.Apply. ref16.Same, Right. -/
import Derived.Test.YtkbjnlbbfapgdaaDoorAcctL
import Derived.Test.YtkbjnlbbfapgdaaDoorQuietE
import Derived.Test.YtkbjnlbbfapgdaaDoorAcctH
import Derived.Test.YtkbjnlbbfapgdaaDoorLGb
import Derived.Test.YtkbjnlbbfapgdaaDoorLGa
import Derived.Test.YtkbjnlbbfapgdaaDoorAcctT
import Derived.Test.YtkbjnlbbfapgdaaDoorAcctRR
set_option maxRecDepth 100000
set_option linter.unusedVariables false
set_option linter.unusedSimpArgs false
namespace Go.Proofs.YtkbjnlbbfapgdaaDoor
open Go.RowKit

/-- the size of a lease; false: there is none -/
def sizeP (ls : List Lz) (id : Nat) : Nat × Bool := match ls.find? (fun l => decide (l.id = id)) with | some l => (l.sz, true) | none => (0, false)
theorem size_hit {ls : List Lz} {id k : Nat} (hk : k < ls.length) (h0 : ∀ j (h : j < ls.length), j < k → ls[j].id ≠ id) (h1 : ls[k].id = id) : sizeP ls id = (ls[k].sz, true) := by
  have : ls.find? (fun l => decide (l.id = id)) = some ls[k] := by
    rw [List.find?_eq_getElem?_findIdx, (List.findIdx_eq hk).2 ⟨decide_eq_true h1, fun j hj => decide_eq_false (h0 j (by omega) hj)⟩]
    exact List.getElem?_eq_getElem hk
  unfold sizeP; rw [this]
theorem size_none {ls : List Lz} {id : Nat} (h0 : ∀ j (h : j < ls.length), ls[j].id ≠ id) : sizeP ls id = (0, false) := by
  have : ls.find? (fun l => decide (l.id = id)) = none := by
    rw [List.find?_eq_none]
    intro l hl hd
    obtain ⟨j, hj, rfl⟩ := List.mem_iff_getElem.1 hl
    exact h0 j hj (of_decide_eq_true hd)
  unfold sizeP; rw [this]

set_option maxHeartbeats 4000000 in
theorem rsize_calls (a : Ac) (AL AC : Option Addr) (cL cC : Nat) (id : Nat) (w : World) (ha : RdA w a AL AC) (hl : a.ls.length ≤ 100000) :
    Calls Tryd.prog 119 #[acA a AL cL AC cC, .int .u64 id] w (RetV w (.tuple #[.int .u64 (sizeP a.ls id).1, .bool (sizeP a.ls id).2])) := by
  have HA := Lib.hid ha
  have HT : Hid (∀ k (hk : k < a.ls.length), (∀ j (h : j < a.ls.length), j < k → a.ls[j].id ≠ id) → a.ls[k].id = id → sizeP a.ls id = (a.ls[k].sz, true)) := fun k hk h0 h1 => size_hit hk h0 h1
  have HF : Hid ((∀ j (h : j < a.ls.length), a.ls[j].id ≠ id) → sizeP a.ls id = (0, false)) := fun h0 => size_none h0
  clear ha
  generalize sizeP a.ls id = S at *
  unfold acA
  go_enter Tryd.func119, Tryd.ntmps119
  go_wp2_with (first | ((with_reducible show wpList _ _ _ ({ dst := some 2, op := Op.box 26 _, type := _, pos := _, after := _, guard := _ } :: _) _ _); refine bxA _ rfl 26 _ rfl _ rfl ?_; intro g1 w1 hg hs1 k1 e1; have X1 := Lib.hid k1; have E1 := Lib.hid e1; clear hg hs1 k1 e1))
  go_loopw [6] (fun i wr => ∃ k : Nat, k ≤ a.ls.length ∧ i = .int .i64 k ∧ Ext w1 wr ∧ (∀ j (h : j < a.ls.length), j < k → a.ls[j].id ≠ id)) (fun i _ => a.ls.length - (intOf i).toNat)
  case atStart => exact ⟨0, by omega, rfl, Ext.refl _, fun j h hj => by omega⟩
  case round =>
    obtain ⟨k, hk, rfl, hE, hr⟩ := hrel
    have HR := Lib.hid hr
    have E0 := Lib.hid hE
    have F0 := Lib.hid (E1.out.trans hE)
    clear hr hE
    obtain ⟨a0, a1, a2, a3, a4, a5, a6⟩ := ac_cells (X1.out.ext E0.out)
    by_cases hlt : k < a.ls.length
    · obtain ⟨ad, rfl, x0, x1⟩ := (HA.out.1.ext F0.out).two hlt
      have k1 : (k : Int) < (a.ls.length : Int) := by omega
      have HTk := Lib.hid (HT.out k hlt HR.out)
      have HRk : Hid (a.ls[k].id ≠ id → ∀ j (h : j < a.ls.length), j < k + 1 → a.ls[j].id ≠ id) := fun h j hj hjk => by
        rcases Nat.lt_or_ge j k with h2 | h2
        · exact HR.out j hj h2
        · obtain rfl : j = k := by omega
          exact h
      generalize a.ls[k] = x at *
      by_cases ht : x.id = id
      · have q : ((x.id : Int) == (id : Int)) = true := by rw [ht]; simp
        have HFF := Lib.hid (HTk.out ht)
        clear HTk HRk ht
        go_wp2_with fail
        go_ret2
        rw [HFF.out]
        exact ⟨rfl, F0.out⟩
      · have q : ((x.id : Int) == (id : Int)) = false := by simp; omega
        have HFF := Lib.hid (HRk.out ht)
        clear HTk HRk ht
        go_wp2_with fail
        go_roundw
        case rel => exact ⟨k + 1, by omega, by go_num, E0.out, HFF.out⟩
        case measure => simp [intOf]; omega
    · have HFF := Lib.hid (HF.out (fun j h => HR.out j h (by omega)))
      have k1 : ¬ (k : Int) < (a.ls.length : Int) := by omega
      go_wp2_with fail
      go_ret2
      rw [HFF.out]
      exact ⟨rfl, F0.out⟩

set_option maxHeartbeats 4000000 in
theorem rroom_calls (a : Ac) (AL AC : Option Addr) (cL cC : Nat) (w : World) (ha : RdA w a AL AC) (hok : a.ok) :
    Calls Tryd.prog 120 #[acA a AL cL AC cC] w (RetV w (.int .u64 (roomN a))) := by
  have HV : Hid (roomN a = if a.cap < useN a then 0 else a.cap - useN a) := by show _ = _; rfl
  have hcap := hok.2.1
  have HU0 : Hid (∀ W, Ext w W → Calls Tryd.prog 16 #[(.agg #[.string a.ten, .int .u64 a.cap, .int .u64 a.used, .int .u64 a.bits, .int .u64 a.per, .slice AL a.ls.length cL, .slice AC a.cl.length cC])] W (RetV W (.int .u64 (useN a)))) := fun W e => ruse_calls a AL AC cL cC W (ha.ext e) hok
  clear ha hok
  generalize roomN a = R at *
  generalize useN a = U at *
  unfold acA
  go_enter Tryd.func120, Tryd.ntmps120
  go_wp2_with (first | ((with_reducible show wpList _ _ _ ({ dst := some 1, op := Op.box 26 _, type := _, pos := _, after := _, guard := _ } :: _) _ _); refine bxA _ rfl 26 _ rfl _ rfl ?_; intro g1 w1 hg hs1 k1 e1; have X1 := Lib.hid k1; have E1 := Lib.hid e1; clear hg hs1 k1 e1))
  have HU : Hid (∀ W, Ext w1 W → Calls Tryd.prog 16 #[(.agg #[.string a.ten, .int .u64 a.cap, .int .u64 a.used, .int .u64 a.bits, .int .u64 a.per, .slice AL a.ls.length cL, .slice AC a.cl.length cC])] W (RetV W (.int .u64 U))) := fun W e => HU0.out W (E1.out.trans e)
  have KS : Hid (∀ W, Ext w1 W → _) := fun W e => ac_cells (X1.out.ext e)
  by_cases hc : a.cap < U
  · have q : decide (a.cap < U) = true := decide_eq_true hc
    rw [if_pos hc] at HV
    clear hc
    refine wp_region_quietE w1 (Ext.refl _) (by kernel_rfl) (by kernel_rfl) ?_
    repeat (first | (apply wpq_skip; (focus rfl); (try simp only [Act.put, List.setIfInBounds_toArray, List.set_cons_zero, List.set_cons_succ])) | ((with_reducible show QGoal _ _ _ _ ({ dst := _, op := Op.call { callee := Callee.value (Operand.func 16), args := _, argTypes := _ }, type := _, pos := _, after := _, guard := _ } :: _) _); apply wpq_call (hc := HU.out); (focus rfl); (focus (intro W hW; go_simp; (first | done | with_reducible rfl))); (try simp only [Act.put, List.setIfInBounds_toArray, List.set_cons_zero, List.set_cons_succ])) | (apply wpq_take; (focus rfl); (focus (intro W hW; obtain ⟨a0, a1, a2, a3, a4, a5, a6⟩ := KS.out W hW; go_simp; (first | done | with_reducible rfl))); (try simp only [Act.put, List.setIfInBounds_toArray, List.set_cons_zero, List.set_cons_succ])))
    refine wpq_nil ?_
    intro w9 S9
    go_wp2_with fail
    go_ret
    rw [HV.out]
    exact ⟨rfl, E1.out.trans S9⟩
  · have q : decide (a.cap < U) = false := decide_eq_false hc
    have u1 : IntKind.u64.wrap ((a.cap : Int) - (U : Int)) = ((a.cap - U : Nat) : Int) := by rw [IntWalk.u64_in _ (by omega)]; omega
    rw [if_neg hc] at HV
    clear hc
    refine wp_region_quietE w1 (Ext.refl _) (by kernel_rfl) (by kernel_rfl) ?_
    repeat (first | (apply wpq_skip; (focus rfl); (try simp only [Act.put, List.setIfInBounds_toArray, List.set_cons_zero, List.set_cons_succ])) | ((with_reducible show QGoal _ _ _ _ ({ dst := _, op := Op.call { callee := Callee.value (Operand.func 16), args := _, argTypes := _ }, type := _, pos := _, after := _, guard := _ } :: _) _); apply wpq_call (hc := HU.out); (focus rfl); (focus (intro W hW; go_simp; (first | done | with_reducible rfl))); (try simp only [Act.put, List.setIfInBounds_toArray, List.set_cons_zero, List.set_cons_succ])) | (apply wpq_take; (focus rfl); (focus (intro W hW; obtain ⟨a0, a1, a2, a3, a4, a5, a6⟩ := KS.out W hW; go_simp; (first | done | with_reducible rfl))); (try simp only [Act.put, List.setIfInBounds_toArray, List.set_cons_zero, List.set_cons_succ])))
    refine wpq_nil ?_
    intro w9 S9
    go_wp2_with fail
    refine wp_region_quietE w1 S9 (by kernel_rfl) (by kernel_rfl) ?_
    repeat (first | (apply wpq_skip; (focus rfl); (try simp only [Act.put, List.setIfInBounds_toArray, List.set_cons_zero, List.set_cons_succ])) | ((with_reducible show QGoal _ _ _ _ ({ dst := _, op := Op.call { callee := Callee.value (Operand.func 16), args := _, argTypes := _ }, type := _, pos := _, after := _, guard := _ } :: _) _); apply wpq_call (hc := HU.out); (focus rfl); (focus (intro W hW; go_simp; (first | done | with_reducible rfl))); (try simp only [Act.put, List.setIfInBounds_toArray, List.set_cons_zero, List.set_cons_succ])) | (apply wpq_take; (focus rfl); (focus (intro W hW; obtain ⟨a0, a1, a2, a3, a4, a5, a6⟩ := KS.out W hW; go_simp; (first | done | with_reducible rfl))); (try simp only [Act.put, List.setIfInBounds_toArray, List.set_cons_zero, List.set_cons_succ])))
    refine wpq_nil ?_
    intro w10 S10
    go_wp2_with fail
    go_ret
    rw [HV.out]
    exact ⟨rfl, E1.out.trans S10⟩
end Go.Proofs.YtkbjnlbbfapgdaaDoor

namespace Go.Proofs.YtkbjnlbbfapgdaaDoor
open Go.RowKit

theorem sizeP_chk {a : Ac} {lease n : Nat} : chkS a 4 lease n = if (sizeP a.ls lease).2 = false then 8 else if (sizeP a.ls lease).1 < n then 6 else 0 := by
  unfold chkS sizeP
  cases a.ls.find? (fun l => decide (l.id = lease)) with
  | none => rfl
  | some l => rfl
theorem any_hit {ls : List Lz} {k lease : Nat} (hk : k < ls.length) (h : lease ≤ ls[k].id) : ls.any (fun l => decide (lease ≤ l.id)) = true := List.any_eq_true.2 ⟨_, List.getElem_mem hk, decide_eq_true h⟩
theorem any_none {ls : List Lz} {lease : Nat} (h : ∀ j (h : j < ls.length), ¬ lease ≤ ls[j].id) : ls.any (fun l => decide (lease ≤ l.id)) = false := List.any_eq_false.2 fun l hl hd => by
  obtain ⟨j, hj, rfl⟩ := List.mem_iff_getElem.1 hl
  exact h j hj (of_decide_eq_true hd)

set_option maxHeartbeats 8000000 in
theorem rachk_calls (a : Ac) (r : Rc) (AL AC : Option Addr) (cL cC : Nat) (w : World) (ha : RdA w a AL AC) (hok : a.ok) (hr : r.ok) (ht : r.ten.size ≤ 1000000) :
    Calls Tryd.prog 86 #[acA a AL cL AC cC, rcA r] w (RetV w (.int .i64 (chkA a r))) := by
  have HA := Lib.hid ha
  have OK := Lib.hid hok
  have l1 := hok.2.2.2.2.2.2.2.1
  have HC : Hid (∀ W, Calls Tryd.prog 84 #[(.agg #[.int .u64 r.seq, .int .i64 r.kind, .string r.ten, .int .u64 r.lease, .int .u64 r.n, .int .u64 r.bits])] W (RetV W (.int .i64 (recE r.seq r.kind r.ten r.lease r.n r.bits)))) := fun W => rcheck_calls r.seq r.kind r.ten r.lease r.n r.bits W hr.2.2.2.1 ht
  have HE : Hid (chkA a r = if recE r.seq r.kind r.ten r.lease r.n r.bits ≠ 0 then recE r.seq r.kind r.ten r.lease r.n r.bits else if r.ten ≠ a.ten then 7 else chkS a r.kind r.lease r.n) := by show _ = _; rfl
  have HSZ : Hid (∀ W, Ext w W → Calls Tryd.prog 119 #[(.agg #[.string a.ten, .int .u64 a.cap, .int .u64 a.used, .int .u64 a.bits, .int .u64 a.per, .slice AL a.ls.length cL, .slice AC a.cl.length cC]), .int .u64 r.lease] W (RetV W (.tuple #[.int .u64 (sizeP a.ls r.lease).1, .bool (sizeP a.ls r.lease).2]))) := fun W e => rsize_calls a AL AC cL cC r.lease W (ha.ext e) l1
  have HRO : Hid (∀ W, Ext w W → Calls Tryd.prog 120 #[(.agg #[.string a.ten, .int .u64 a.cap, .int .u64 a.used, .int .u64 a.bits, .int .u64 a.per, .slice AL a.ls.length cL, .slice AC a.cl.length cC])] W (RetV W (.int .u64 (roomN a)))) := fun W e => rroom_calls a AL AC cL cC W (ha.ext e) hok
  have HS4 : Hid (chkS a 4 r.lease r.n = if (sizeP a.ls r.lease).2 = false then 8 else if (sizeP a.ls r.lease).1 < r.n then 6 else 0) := sizeP_chk
  have HHIT : Hid (∀ k (hk : k < a.ls.length), r.lease ≤ a.ls[k].id → chkS a 3 r.lease r.n = 9) := fun k hk h => by unfold chkS; rw [if_pos rfl, any_hit hk h]; rfl
  have HNON : Hid ((∀ j (h : j < a.ls.length), ¬ r.lease ≤ a.ls[j].id) → chkS a 3 r.lease r.n = if roomN a < r.n then 11 else 0) := fun h => by unfold chkS; rw [if_pos rfl, any_none h]; rfl
  have HS5 : Hid (chkS a 5 r.lease r.n = if 0 < a.ls.length then 12 else if 65536 ≤ a.per then 3 else 0) := rfl
  have HS0 : Hid (r.kind ≠ 3 → r.kind ≠ 4 → r.kind ≠ 5 → chkS a r.kind r.lease r.n = 0) := fun h3 h4 h5 => by unfold chkS; rw [if_neg h3, if_neg h4, if_neg h5]
  clear ha hok hr ht
  generalize recE r.seq r.kind r.ten r.lease r.n r.bits = E at *
  obtain ⟨SN, hSN⟩ : ∃ x, x = (sizeP a.ls r.lease).1 := ⟨_, rfl⟩
  obtain ⟨SB, hSB⟩ : ∃ x, x = (sizeP a.ls r.lease).2 := ⟨_, rfl⟩
  rw [← hSN, ← hSB] at HSZ HS4
  clear hSN hSB
  unfold acA rcA
  go_enter Tryd.func86, Tryd.ntmps86
  go_wp2_with (first
    | ((with_reducible show wpList _ _ _ ({ dst := some 2, op := Op.box 26 _, type := _, pos := _, after := _, guard := _ } :: _) _ _); refine bxA _ rfl 26 _ rfl _ rfl ?_; intro g1 w1 hg hs1 k1 e1; have X0 := Lib.hid k1; have E0 := Lib.hid e1; clear hg hs1 k1 e1)
    | ((with_reducible show wpList _ _ _ ({ dst := some 3, op := Op.box 28 _, type := _, pos := _, after := _, guard := _ } :: _) _ _); refine bxA _ rfl 28 _ rfl _ rfl ?_; intro g3 w3 hg hs1 k1 e1; have Y3 := Lib.hid k1; have X3 := Lib.hid (X0.out.ext e1); have E3 := Lib.hid (E0.out.trans e1); obtain ⟨r0, r1, r2, r3, r4, r5⟩ := rc_cells k1; clear hg hs1 k1 e1 X0 E0))
  refine (HC.out _).mono ?_
  rintro e w4 ⟨rfl, e4⟩
  have X4 := Lib.hid (X3.out.ext e4)
  have Y4 := Lib.hid (Y3.out.ext e4)
  have E4 := Lib.hid (E3.out.trans e4)
  clear e4 r0 r1 r2 r3 r4 r5 X3 Y3 E3 HC
  obtain ⟨a0, a1, a2, a3, a4, a5, a6⟩ := ac_cells X4.out
  obtain ⟨r0, r1, r2, r3, r4, r5⟩ := rc_cells Y4.out
  by_cases h0 : E = 0
  · subst h0
    rw [if_neg (by simp)] at HE
    by_cases hten : r.ten = a.ten
    · rw [if_neg (by simpa using hten)] at HE
      have q5 : (r.ten.toList == a.ten.toList) = true := by rw [str_beq]; exact decide_eq_true hten
      clear hten
      go_wp2_with fail
      refine (HSZ.out _ E4.out).mono ?_
      rintro e w5 ⟨rfl, e5⟩
      have X5 := Lib.hid (X4.out.ext e5)
      have Y5 := Lib.hid (Y4.out.ext e5)
      have E5 := Lib.hid (E4.out.trans e5)
      clear e5 r0 r1 r2 r3 r4 r5 a0 a1 a2 a3 a4 a5 a6 X4 Y4 E4 HSZ q5
      obtain ⟨a0, a1, a2, a3, a4, a5, a6⟩ := ac_cells X5.out
      obtain ⟨r0, r1, r2, r3, r4, r5⟩ := rc_cells Y5.out
      by_cases k3 : r.kind = 3
      · rw [k3] at HE r1
        clear HS0 HS4 HS5
        have K3 := Lib.hid k3
        clear k3
        go_wp2_with fail
        clear a0 a1 a2 a3 a4 a5 a6 r0 r1 r2 r3 r4 r5
        go_loopw [8] (fun i wr => ∃ k : Nat, k ≤ a.ls.length ∧ i = .int .i64 k ∧ Ext w5 wr ∧ (∀ j (h : j < a.ls.length), j < k → ¬ r.lease ≤ a.ls[j].id)) (fun i _ => a.ls.length - (intOf i).toNat)
        case atStart => exact ⟨0, by omega, rfl, Ext.refl _, fun j h hj => by omega⟩
        case round =>
          obtain ⟨k, hk, rfl, hE, hr⟩ := hrel
          have HR := Lib.hid hr
          have E0 := Lib.hid hE
          have F0 := Lib.hid (E5.out.trans hE)
          clear hr hE
          by_cases hlt : k < a.ls.length
          · obtain ⟨a0, a1, a2, a3, a4, a5, a6⟩ := ac_cells (X5.out.ext E0.out)
            obtain ⟨r0, r1, r2, r3, r4, r5⟩ := rc_cells (Y5.out.ext E0.out)
            rw [K3.out] at r1
            obtain ⟨ad, rfl, x0, x1⟩ := (HA.out.1.ext F0.out).two hlt
            have kk : (k : Int) < (a.ls.length : Int) := by omega
            have HTk := Lib.hid (HHIT.out k hlt)
            have HRk : Hid (¬ r.lease ≤ a.ls[k].id → ∀ j (h : j < a.ls.length), j < k + 1 → ¬ r.lease ≤ a.ls[j].id) := fun h j hj hjk => by
              rcases Nat.lt_or_ge j k with h2 | h2
              · exact HR.out j hj h2
              · obtain rfl : j = k := by omega
                exact h
            generalize a.ls[k] = x at *
            by_cases hx : r.lease ≤ x.id
            · have q : decide (r.lease ≤ x.id) = true := decide_eq_true hx
              have HFF := Lib.hid (HTk.out hx)
              clear HTk HRk hx
              rw [HFF.out] at HE
              go_wp2_with fail
              go_quiet (fail)
              go_wp2_with fail
              go_ret
              rw [HE.out]
              exact ⟨rfl, F0.out.drewN nq⟩
            · have q : decide (r.lease ≤ x.id) = false := decide_eq_false hx
              have HFF := Lib.hid (HRk.out hx)
              clear HTk HRk hx
              go_wp2_with fail
              go_quiet (fail)
              go_wp2_with fail
              go_roundw
              case rel => exact ⟨k + 1, by omega, by go_num, E0.out.drewN nq, HFF.out⟩
              case measure => simp [intOf]; omega
          · have HFF := Lib.hid (HNON.out (fun j h => HR.out j h (by omega)))
            have kk : ¬ (k : Int) < (a.ls.length : Int) := by omega
            rw [HFF.out] at HE
            have HRO2 : Hid (∀ W, Ext wr W → Calls Tryd.prog 120 #[(.agg #[.string a.ten, .int .u64 a.cap, .int .u64 a.used, .int .u64 a.bits, .int .u64 a.per, .slice AL a.ls.length cL, .slice AC a.cl.length cC])] W (RetV W (.int .u64 (roomN a)))) := fun W e => HRO.out W (F0.out.trans e)
            have X6 := Lib.hid (X5.out.ext E0.out)
            have Y6 := Lib.hid (Y5.out.ext E0.out)
            have KS : Hid (∀ W, Ext wr W → _) := fun W e => And.intro (ac_cells (X6.out.ext e)) (rc_cells (Y6.out.ext e))
            obtain ⟨a0, a1, a2, a3, a4, a5, a6⟩ := ac_cells X6.out
            generalize roomN a = RM at *
            have HQ : Hid ((if RM < r.n then (11 : Int) else 0) = if decide (RM < r.n) = true then 11 else 0) := by
              show _ = _
              by_cases h : RM < r.n <;> simp [h]
            rw [HQ.out] at HE
            cases hq : decide (RM < r.n) with
            | true =>
              rw [hq, if_pos rfl] at HE
              go_wp2_with fail
              refine wp_region_quietE wr (Ext.refl _) (by kernel_rfl) (by kernel_rfl) ?_
              repeat (first | (apply wpq_skip; (focus rfl); (try simp only [Act.put, List.setIfInBounds_toArray, List.set_cons_zero, List.set_cons_succ])) | ((with_reducible show QGoal _ _ _ _ ({ dst := _, op := Op.call { callee := Callee.value (Operand.func 120), args := _, argTypes := _ }, type := _, pos := _, after := _, guard := _ } :: _) _); apply wpq_call (hc := HRO2.out); (focus rfl); (focus (intro W hW; go_simp; (first | done | with_reducible rfl))); (try simp only [Act.put, List.setIfInBounds_toArray, List.set_cons_zero, List.set_cons_succ])) | (apply wpq_take; (focus rfl); (focus (intro W hW; obtain ⟨⟨a0, a1, a2, a3, a4, a5, a6⟩, ⟨r0, r1, r2, r3, r4, r5⟩⟩ := KS.out W hW; go_simp; (first | done | with_reducible rfl))); (try simp only [Act.put, List.setIfInBounds_toArray, List.set_cons_zero, List.set_cons_succ])))
              refine wpq_nil ?_
              intro w9 S9
              go_wp2_with fail
              go_ret
              rw [HE.out]
              exact ⟨rfl, F0.out.trans S9⟩
            | false =>
              rw [hq, if_neg (by decide)] at HE
              go_wp2_with fail
              refine wp_region_quietE wr (Ext.refl _) (by kernel_rfl) (by kernel_rfl) ?_
              repeat (first | (apply wpq_skip; (focus rfl); (try simp only [Act.put, List.setIfInBounds_toArray, List.set_cons_zero, List.set_cons_succ])) | ((with_reducible show QGoal _ _ _ _ ({ dst := _, op := Op.call { callee := Callee.value (Operand.func 120), args := _, argTypes := _ }, type := _, pos := _, after := _, guard := _ } :: _) _); apply wpq_call (hc := HRO2.out); (focus rfl); (focus (intro W hW; go_simp; (first | done | with_reducible rfl))); (try simp only [Act.put, List.setIfInBounds_toArray, List.set_cons_zero, List.set_cons_succ])) | (apply wpq_take; (focus rfl); (focus (intro W hW; obtain ⟨⟨a0, a1, a2, a3, a4, a5, a6⟩, ⟨r0, r1, r2, r3, r4, r5⟩⟩ := KS.out W hW; go_simp; (first | done | with_reducible rfl))); (try simp only [Act.put, List.setIfInBounds_toArray, List.set_cons_zero, List.set_cons_succ])))
              refine wpq_nil ?_
              intro w9 S9
              go_wp2_with fail
              go_ret
              rw [HE.out]
              exact ⟨rfl, F0.out.trans S9⟩
      by_cases k4 : r.kind = 4
      · rw [k4, HS4.out] at HE
        rw [k4] at r1
        clear k3 k4 HS0 HS4 HS5 HHIT HNON
        cases SB with
        | false =>
          go_wp2_with fail
          go_ret
          rw [HE.out]
          exact ⟨rfl, E5.out⟩
        | true =>
          by_cases hn : SN < r.n
          · have q : decide (SN < r.n) = true := decide_eq_true hn
            rw [if_neg (by simp), if_pos hn] at HE
            clear hn
            go_wp2_with fail
            go_ret
            rw [HE.out]
            exact ⟨rfl, E5.out⟩
          · have q : decide (SN < r.n) = false := decide_eq_false hn
            rw [if_neg (by simp), if_neg hn] at HE
            clear hn
            go_wp2_with fail
            go_ret
            rw [HE.out]
            exact ⟨rfl, E5.out⟩
      by_cases k5 : r.kind = 5
      · rw [k5, HS5.out] at HE
        rw [k5] at r1
        clear k3 k4 k5 HS0 HS4 HS5 HHIT HNON
        by_cases hp : 0 < a.ls.length
        · have q : decide (0 < a.ls.length) = true := decide_eq_true hp
          rw [if_pos hp] at HE
          go_wp2_with fail
          go_ret
          rw [HE.out]
          exact ⟨rfl, E5.out⟩
        · rw [if_neg hp] at HE
          by_cases hq : 65536 ≤ a.per
          · have q1 : decide ((65536 : Int) ≤ (a.per : Int)) = true := by simp; omega
            rw [if_pos hq] at HE
            clear hq
            go_wp2_with fail
            go_ret
            rw [HE.out]
            exact ⟨rfl, E5.out⟩
          · have q1 : decide ((65536 : Int) ≤ (a.per : Int)) = false := by simp; omega
            rw [if_neg hq] at HE
            clear hq
            go_wp2_with fail
            go_ret
            rw [HE.out]
            exact ⟨rfl, E5.out⟩
      · rw [HS0.out k3 k4 k5] at HE
        have q3 : (r.kind == 3) = false := by simpa using k3
        have q4 : (r.kind == 4) = false := by simpa using k4
        have q6 : (r.kind == 5) = false := by simpa using k5
        clear k3 k4 k5 HS0 HS4 HS5 HHIT HNON
        go_wp2_with fail
        go_ret
        rw [HE.out]
        exact ⟨rfl, E5.out⟩
    · rw [if_pos hten] at HE
      have q5 : (r.ten.toList == a.ten.toList) = false := by rw [str_beq]; exact decide_eq_false hten
      clear hten
      go_wp2_with fail
      go_ret
      rw [HE.out]
      exact ⟨rfl, E4.out⟩
  · have q0 : (E != 0) = true := by simpa using h0
    rw [if_pos h0] at HE
    clear h0
    go_wp2_with fail
    go_ret
    rw [HE.out]
    exact ⟨rfl, E4.out⟩
end Go.Proofs.YtkbjnlbbfapgdaaDoor

namespace Go.Proofs.YtkbjnlbbfapgdaaDoor
open Go.RowKit

def i0 (a : Ac) (r : Rc) : Nat := idx a.ls (fun l => decide (l.id = r.lease))
def outD (a : Ac) (r : Rc) (k : Nat) : Bool := decide (r.kind = 4 ∧ i0 a r < k)
def outS (a : Ac) (r : Rc) (k : Nat) : List Lz := if r.kind = 4 ∧ i0 a r < k then (a.ls.take k).eraseIdx (i0 a r) else a.ls.take k
theorem outS_zero (a : Ac) (r : Rc) : outS a r 0 = [] := by unfold outS; split <;> simp
theorem outD_zero (a : Ac) (r : Rc) : outD a r 0 = false := by unfold outD; exact decide_eq_false (by omega)
theorem outS_skip {a : Ac} {r : Rc} {k : Nat} (hk : k < a.ls.length) (h4 : r.kind = 4) (hp : a.ls[k].id = r.lease) (hd : outD a r k = false) : outS a r (k + 1) = outS a r k ∧ outD a r (k + 1) = true := by
  have h1 : ¬ i0 a r < k := fun h => by unfold outD at hd; rw [decide_eq_false_iff_not] at hd; exact hd ⟨h4, h⟩
  have h2 : ¬ k < i0 a r := fun h => by
    have := List.not_of_lt_findIdx (p := fun l : Lz => decide (l.id = r.lease)) h
    simp [hp] at this
  have h3 : i0 a r = k := by omega
  refine ⟨?_, ?_⟩
  · unfold outS
    rw [if_pos ⟨h4, by omega⟩, if_neg (by omega), h3, List.take_succ_eq_append_getElem hk]
    rw [List.eraseIdx_append_of_length_le (by simp; omega)]
    simp [List.length_take, Nat.min_eq_left (Nat.le_of_lt hk)]
  · unfold outD; exact decide_eq_true ⟨h4, by omega⟩
theorem outS_take {a : Ac} {r : Rc} {k : Nat} (hk : k < a.ls.length) (h : r.kind ≠ 4 ∨ a.ls[k].id ≠ r.lease ∨ outD a r k = true) : outS a r (k + 1) = outS a r k ++ [a.ls[k]] ∧ outD a r (k + 1) = outD a r k := by
  by_cases h4 : r.kind = 4
  · by_cases hd : i0 a r < k
    · refine ⟨?_, ?_⟩
      · unfold outS
        rw [if_pos ⟨h4, by omega⟩, if_pos ⟨h4, hd⟩, List.take_succ_eq_append_getElem hk, List.eraseIdx_append_of_lt_length (by rw [List.length_take]; omega)]
      · unfold outD; rw [decide_eq_true (show r.kind = 4 ∧ i0 a r < k from ⟨h4, hd⟩), decide_eq_true (show r.kind = 4 ∧ i0 a r < k + 1 from ⟨h4, by omega⟩)]
    · have hid : a.ls[k].id ≠ r.lease := by
        rcases h with h | h | h
        · exact absurd h4 h
        · exact h
        · unfold outD at h; exact absurd (of_decide_eq_true h).2 hd
      have h3 : i0 a r ≠ k := fun e => by
        have hp : a.ls.findIdx (fun l => decide (l.id = r.lease)) < a.ls.length := by show i0 a r < _; omega
        have := List.findIdx_getElem (p := fun l : Lz => decide (l.id = r.lease)) (w := hp)
        have hx : a.ls.findIdx (fun l => decide (l.id = r.lease)) = k := e
        simp only [hx] at this
        exact hid (of_decide_eq_true this)
      refine ⟨?_, ?_⟩
      · unfold outS
        rw [if_neg (by omega), if_neg (by omega), List.take_succ_eq_append_getElem hk]
      · unfold outD; rw [decide_eq_false (by omega), decide_eq_false (by omega)]
  · refine ⟨?_, ?_⟩
    · unfold outS
      rw [if_neg (fun e => h4 e.1), if_neg (fun e => h4 e.1), List.take_succ_eq_append_getElem hk]
    · unfold outD; rw [decide_eq_false (fun e => h4 e.1), decide_eq_false (fun e => h4 e.1)]
theorem outS_end {a : Ac} {r : Rc} (h : chkA a r = 0) : outS a r a.ls.length = if r.kind = 4 then a.ls.eraseIdx (i0 a r) else a.ls := by
  by_cases h4 : r.kind = 4
  · have h3 := (chk_zero h).2.2
    rw [h4] at h3
    obtain ⟨l, h5, _⟩ := chk_settle h3
    have : i0 a r < a.ls.length := List.findIdx_lt_length.2 ⟨l, List.mem_of_find?_eq_some h5, List.find?_some (p := fun l : Lz => decide (l.id = r.lease)) h5⟩
    unfold outS
    rw [if_pos ⟨h4, this⟩, if_pos h4, List.take_of_length_le (Nat.le_refl _)]
  · unfold outS
    rw [if_neg (fun e => h4 e.1), if_neg h4, List.take_of_length_le (Nat.le_refl _)]
theorem outS_len (a : Ac) (r : Rc) (k : Nat) : (outS a r k).length ≤ k := by
  unfold outS
  split
  · have := List.length_eraseIdx_le (a.ls.take k) (i0 a r)
    have := List.length_take_le k a.ls
    omega
  · exact List.length_take_le k a.ls

section laws
variable {ops : Array Oper} {rest : List Oper} {o : Oper} {a : Act} {Q : Exit → Act → World → Prop}
theorem run_appC (w : World) (t ty e : TypeId) (z : Value) (size bytes : Nat) (ht : Tryd.prog.underlying t = some (.slice e)) (hinfo : (Tryd.prog.info? e).map (fun i => (i.zero, i.size, i.bytes)) = some (some z, size, bytes)) (hz : z.cells.size = size) (hsz : 0 < size)
    (X : Option Addr) (m d : Nat) (news : List Value) (hl : news.length = m * size) (hR : Rd w X news) (h1 : ∀ u ∈ news, u.oneCell' = true)
    (hb : m * bytes ≤ 140737488355328) (hmx : m ≤ 9223372036854775807) :
    ∃ A' c' w', (Builtin.append_ #[t, t] ty #[.slice none 0 0, .slice X m d]).run Tryd.prog w = .ok (.slice A' m c') w' ∧ OwnV w' w.heap.size e size A' m c' news ∧ Ext w w' := by
  cases X with
  | some ad =>
    obtain ⟨A', c', w', h2, h3, h4, _⟩ := run_appV (P := Tryd.prog) w t ty e z size bytes ht hinfo hz hsz w.heap.size none 0 0 [] (OwnV.nil _ _ _ _) ad m d news hl (fun j u hj => by obtain ⟨_, h, hc⟩ := hR j u hj; cases h; exact hc) h1 (by rw [Nat.zero_add]; exact hb) (by omega) (Nat.le_refl _)
    rw [Nat.zero_add] at h2 h3
    rw [List.nil_append] at h3
    exact ⟨A', c', w', h2, h3, (Ext.refl w).grown h4 (fun k hk => by cases hk)⟩
  | none =>
    have hn : news = [] := by
      cases news with
      | nil => rfl
      | cons x l => obtain ⟨_, h, _⟩ := hR 0 x rfl; cases h
    subst hn
    have hm : m = 0 := by
      rcases Nat.eq_zero_or_pos m with h | h
      · exact h
      · have := Nat.mul_pos h hsz; simp at hl; omega
    subst hm
    obtain ⟨i, hi, _, hs, _⟩ := info_parts hinfo
    exact ⟨none, 0, w, by simpa using run_app_nil w w.heap.size t ty e i size ht hi (.slice none 0 0) 0 [] (OwnV.nil w w.heap.size e size) d, OwnV.nil _ _ _ _, Ext.refl w⟩
/-- append(nil, x...) -/
theorem appC (w : World) (hgd : Region.wanted o (yielded ops a.tmps) = true) (s x : Operand) (t : TypeId) (ho : o.op = .call { callee := .builtin .append, args := #[s, x], argTypes := #[t, t] })
    (e : TypeId) (z : Value) (size bytes : Nat) (ht : Tryd.prog.underlying t = some (.slice e)) (hinfo : (Tryd.prog.info? e).map (fun i => (i.zero, i.size, i.bytes)) = some (some z, size, bytes)) (hz : z.cells.size = size) (hsz : 0 < size)
    (hs : a.eval s = .slice none 0 0) (X : Option Addr) (m d : Nat) (news : List Value) (hx : a.eval x = .slice X m d)
    (hl : news.length = m * size) (hR : Rd w X news) (h1 : ∀ u ∈ news, u.oneCell' = true)
    (hb : m * bytes ≤ 140737488355328) (hmx : m ≤ 9223372036854775807)
    (h : ∀ A' c' w', OwnV w' w.heap.size e size A' m c' news → Ext w w' → wpList Tryd.prog ops Q rest (a.put o.dst (.slice A' m c')) w') :
    wpList Tryd.prog ops Q (o :: rest) a w := by
  refine wpList_want hgd fun K hK => ?_
  obtain ⟨A', c', w', hrun, h2, h3⟩ := run_appC w t o.type e z size bytes ht hinfo hz hsz X m d news hl hR h1 hb hmx
  unfold Oper.wp execOp
  simp only [ho, resolve, invoke, builtin, Sem.run_bind, Sem.run_pure, Result.andThen_ok, List.map_toArray, List.map_cons, List.map_nil, hs, hx, hrun]
  exact hK _ _ (h A' c' w' h2 h3)
end laws

def kb1 (a : Ac) (r : Rc) : Ac := { a with cap := r.n }
def kb2 (a : Ac) (r : Rc) : Ac := { a with bits := r.bits }
def kb3 (a : Ac) (r : Rc) : Ac := { a with ls := a.ls ++ [⟨r.lease, r.n⟩] }
def kb4 (a : Ac) (r : Rc) (U : Nat) : Ac := { a with ls := a.ls.eraseIdx (i0 a r), used := U }
def kb5 (a : Ac) (DV : Nat) : Ac := { a with cl := a.cl ++ [⟨a.ten, a.per, a.used, a.cap, a.bits, DV⟩], per := a.per + 1, used := 0 }
def oAc (a : Ac) (r : Rc) (k : Nat) : Ac := ⟨a.ten, a.cap, a.used, a.bits, a.per, outS a r k, a.cl⟩
set_option maxHeartbeats 16000000 in
theorem rapply_calls (a : Ac) (r : Rc) (AL AC : Option Addr) (cL cC : Nat) (w : World) (ha : RdA w a AL AC) (hok : a.ok) (hr : r.ok) (h0 : chkA a r = 0) :
    Calls Tryd.prog 89 #[acA a AL cL AC cC, rcA r] w (RetOA w (appA a r)) := by
  have HA := Lib.hid ha
  have OK := Lib.hid hok
  have RK := Lib.hid hr
  have H0 := Lib.hid h0
  have l1 := hok.2.2.2.2.2.2.2.1
  have l2 := hok.2.2.2.2.2.2.2.2
  have HZ := Lib.hid (chk_known h0)
  clear ha hok hr h0
  unfold acA rcA
  go_enter Tryd.func89, Tryd.ntmps89
  go_wp2_with (first
    | ((with_reducible show wpList _ _ _ ({ dst := some 2, op := Op.box 26 _, type := _, pos := _, after := _, guard := _ } :: _) _ _); refine bxA _ rfl 26 _ rfl _ rfl ?_; intro g1 w1 hg hs1 k1 e1; have X1 := Lib.hid k1; have E1 := Lib.hid e1; clear hg hs1 k1 e1)
    | ((with_reducible show wpList _ _ _ ({ dst := some 3, op := Op.box 28 _, type := _, pos := _, after := _, guard := _ } :: _) _ _); refine bxA _ rfl 28 _ rfl _ rfl ?_; intro g3 w2 hg hs1 k1 e1; have R2 := Lib.hid k1; have X2 := Lib.hid (X1.out.ext e1); have E2 := Lib.hid (E1.out.trans e1); clear hg hs1 k1 e1)
    | ((with_reducible show wpList _ _ _ ({ dst := some 4, op := Op.alloc 26, type := _, pos := _, after := _, guard := _ } :: _) _ _); refine alA _ rfl 26 rfl _ _ zero_acct ?_; intro g4 w3 hg hs1 k1 e1; have G4 := Lib.hid (show g1 < g4 ∧ g3 < g4 ∧ w.heap.size ≤ g4 from ⟨by have := X2.out.lt; omega, by have := R2.out.lt; omega, by have := E2.out.size; omega⟩); have X3 := Lib.hid (X2.out.ext e1); have R3 := Lib.hid (R2.out.ext e1); have Y3 := Lib.hid k1; have E3 := Lib.hid (E2.out.trans e1); obtain ⟨a0, a1, a2, a3, a4, a5, a6⟩ := ac_cells X3.out; obtain ⟨r0, r1, r2, r3, r4, r5⟩ := rc_cells R3.out; clear hg hs1 k1 e1)
    | ((with_reducible show wpList _ _ _ ({ dst := some 5, op := Op.alloc 26, type := _, pos := _, after := _, guard := _ } :: _) _ _); refine alA _ rfl 26 rfl _ _ zero_acct ?_; intro g5 w4 hg hs1 k1 e1; have G5 := Lib.hid (show g4 < g5 from by have := Y3.out.lt; omega); have X4 := Lib.hid (X3.out.ext e1); have R4 := Lib.hid (R3.out.ext e1); have Y4 := Lib.hid (Y3.out.ext e1); have Z4 := Lib.hid k1; have E4 := Lib.hid (E3.out.trans e1); clear hg hs1 k1 e1 a0 a1 a2 a3 a4 a5 a6 r0 r1 r2 r3 r4 r5)
    | ((with_reducible show wpList _ _ _ ({ dst := none, op := Op.store 26 (Operand.tmp 5) _, type := _, pos := _, after := _, guard := _ } :: _) _ _); refine stA _ rfl 26 26 _ _ rfl g5 _ (acV ⟨a.ten, a.cap, a.used, a.bits, a.per, [], []⟩ none 0 none 0) rfl rfl Z4.out size_acct rfl (ac_one _ _ _ _ _) ?_; intro w5 hs k5 q5; have Z5 := Lib.hid k5; have E5 := Lib.hid (E4.out.grown q5 (fun q hq => by injection hq with hq; have := G4.out; have := G5.out; omega)); have X5 := Lib.hid (X4.out.grown q5 (by have := G4.out; have := G5.out; intro hh; injection hh; omega)); have R5 := Lib.hid (R4.out.grown q5 (by have := G4.out; have := G5.out; intro hh; injection hh; omega)); have Y5 := Lib.hid (Y4.out.grown q5 (by have := G5.out; intro hh; injection hh; omega)); obtain ⟨a0, a1, a2, a3, a4, a5, a6⟩ := ac_cells X5.out; obtain ⟨z0, z1, z2, z3, z4, z5, z6⟩ := ac_cells Z5.out; clear hs k5 q5)
    | (at_builtin; refine appC _ rfl (.tmp 22) (.tmp 24) 24 rfl 70 (.agg #[.string ByteArray.empty, .int .u64 0, .int .u64 0, .int .u64 0, .int .u64 0, .int .u64 0]) 6 56 Tryd.underlying24 info_stmt rfl (by decide) rfl AC a.cl.length cC (a.cl.flatMap St.cs) rfl (flat_length St.cs_len a.cl) (HA.out.ext E5.out).2 (st_one a.cl) (by omega) (by omega) ?_; intro C6 d6 w6 h6 e6; have O6 := Lib.hid h6; have X6 := Lib.hid (X5.out.ext e6); have R6 := Lib.hid (R5.out.ext e6); have Y6 := Lib.hid (Y5.out.ext e6); have Z6 := Lib.hid (Z5.out.ext e6); have E6 := Lib.hid (E5.out.trans e6); have B6 := Lib.hid e6.size; have GG := Lib.hid (show w.heap.size ≤ g4 ∧ g1 < g4 ∧ g3 < g4 ∧ g4 < g5 ∧ g5 < w5.heap.size from ⟨G4.out.2.2, G4.out.1, G4.out.2.1, G5.out, Z5.out.lt⟩); clear h6 e6 a0 a1 a2 a3 a4 a5 a6 z0 z1 z2 z3 z4 z5 z6)
    | ((with_reducible show wpList _ _ _ ({ dst := none, op := Op.store 24 _ _, type := _, pos := _, after := _, guard := _ } :: _) _ _); refine stF _ rfl 24 _ _ rfl g5 6 (.slice C6 a.cl.length d6) _ _ rfl rfl Z6.out (by show 6 < 7; decide) size_stl rfl ?_; intro w7 hs k7 q7; have Z7 := Lib.hid (show Arr w7 g5 26 (acV (oAc a r 0) none 0 C6 d6) from by rw [show oAc a r 0 = ⟨a.ten, a.cap, a.used, a.bits, a.per, [], a.cl⟩ from by unfold oAc; rw [outS_zero]]; exact k7); have E7 := Lib.hid (E6.out.grown q7 (fun q hq => by injection hq with hq; have := GG.out; omega)); have X7 := Lib.hid (X6.out.grown q7 (by have := GG.out; intro hh; injection hh; omega)); have R7 := Lib.hid (R6.out.grown q7 (by have := GG.out; intro hh; injection hh; omega)); have Y7 := Lib.hid (Y6.out.grown q7 (by have := GG.out; intro hh; injection hh; omega)); have O7 := Lib.hid (show OwnA w7 w5.heap.size (oAc a r 0) none 0 C6 d6 from ⟨by rw [show oAc a r 0 = ⟨a.ten, a.cap, a.used, a.bits, a.per, [], a.cl⟩ from by unfold oAc; rw [outS_zero]]; exact OwnV.nil _ _ _ _, O6.out.keep q7 (.inr (fun e => by have := O6.out.base_ _ e; have := GG.out; omega)), .inl rfl⟩); have B7 := Lib.hid (show w5.heap.size ≤ w7.heap.size from Nat.le_trans B6.out q7.size); clear hs k7 q7))
  clear X1 X2 X3 X4 X5 X6 R2 R3 R4 R5 R6 Y3 Y4 Y5 Y6 Z4 Z5 Z6 O6 B6 E1 E2 E3 E4 E6 G4 G5
  go_loopw [6, 7] (fun d i wr => ∃ k : Nat, ∃ A' c', k ≤ a.ls.length ∧ i = .int .i64 k ∧ d = .bool (outD a r k) ∧ Ext w wr ∧ Arr wr g1 26 (acV a AL cL AC cC) ∧ Arr wr g3 28 (rcV r) ∧ Arr wr g4 26 (acV Ac0 none 0 none 0) ∧ Arr wr g5 26 (acV (oAc a r k) A' c' C6 d6) ∧ OwnA wr w5.heap.size (oAc a r k) A' c' C6 d6 ∧ w5.heap.size ≤ wr.heap.size) (fun _ i _ => a.ls.length - (intOf i).toNat)
  case atStart => exact ⟨0, none, 0, by omega, rfl, by rw [outD_zero], E7.out, X7.out, R7.out, Y7.out, Z7.out, O7.out, B7.out⟩
  case round =>
    obtain ⟨k, A', c', hk, rfl, rfl, h1, h2, h3, h4, h5, h6, h7⟩ := hrel
    have E8 := Lib.hid h1
    have X8 := Lib.hid h2
    have R8 := Lib.hid h3
    have Y8 := Lib.hid h4
    have Z8 := Lib.hid h5
    have O8 := Lib.hid h6
    have B8 := Lib.hid h7
    clear h1 h2 h3 h4 h5 h6 h7
    clear X7 R7 Y7 Z7 O7 B7 E7
    obtain ⟨a0, a1, a2, a3, a4, a5, a6⟩ := ac_cells X8.out
    by_cases hlt : k < a.ls.length
    · have k1 : (k : Int) < (a.ls.length : Int) := by omega
      obtain ⟨ad, hAL, zz0, zz1⟩ := (show RdE Lz.cs wr AL a.ls from (HA.out.ext E8.out).1).two hlt
      have HTK := Lib.hid (outS_take (r := r) hlt)
      have HSK := Lib.hid (outS_skip (r := r) hlt)
      have hSL := outS_len a r k
      have KS : Hid (∀ W, Ext wr W → W.cell? ⟨g1, 5, none⟩ = some (.slice AL a.ls.length cL) ∧ W.cell? ⟨g3, 1, none⟩ = some (.int .i64 r.kind) ∧ W.cell? ⟨g3, 3, none⟩ = some (.int .u64 r.lease)) := fun W e => ⟨(X8.out.ext e).cell 5, (R8.out.ext e).cell 1, (R8.out.ext e).cell 3⟩
      subst hAL
      have KY : Hid (∀ W, Ext wr W → W.cell? (ad.add (k * 2)) = some (.int .u64 a.ls[k].id) ∧ W.cell? ⟨(ad.add (k * 2)).block, (ad.add (k * 2)).off + 1, none⟩ = some (.int .u64 a.ls[k].sz)) := fun W e => by
        obtain ⟨ad2, h1, h2, h3⟩ := (show RdE Lz.cs W (some ad) a.ls from (HA.out.ext (E8.out.trans e)).1).two hlt
        injection h1 with h1
        subst h1
        exact ⟨h2, h3⟩
      clear zz0 zz1
      generalize a.ls[k] = y at *
      obtain ⟨D, hD⟩ : ∃ D, D = outD a r k := ⟨_, rfl⟩
      rw [← hD] at HTK HSK ⊢
      have HDE := Lib.hid hD
      clear hD
      by_cases hk4 : r.kind = 4
      · have q4 : ((r.kind : Int) == 4) = true := by rw [hk4]; rfl
        have HK4 := Lib.hid hk4
        clear hk4
        by_cases hid : y.id = r.lease
        · have qi : ((y.id : Int) == (r.lease : Int)) = true := by simp [hid]
          have HID := Lib.hid hid
          clear hid
          cases D with
          | false =>
            have HS := Lib.hid (HSK.out HK4.out HID.out rfl)
            go_wp2_with fail
            refine wp_region_quietE wr (Ext.refl _) (by kernel_rfl) (by kernel_rfl) ?_
            repeat (first | (apply wpq_skip; (focus rfl); (try simp only [Act.put, List.setIfInBounds_toArray, List.set_cons_zero, List.set_cons_succ])) | (apply wpq_take; (focus rfl); (focus (intro W hW; obtain ⟨a5, r1, r3⟩ := KS.out W hW; obtain ⟨y0, y1⟩ := KY.out W hW; go_simp; (first | done | with_reducible rfl))); (try simp only [Act.put, List.setIfInBounds_toArray, List.set_cons_zero, List.set_cons_succ])))
            refine wpq_nil ?_
            intro w9 S9
            go_wp2_with fail
            go_roundw
            case rel => exact ⟨k + 1, A', c', by omega, by go_num, by rw [HS.out.2], E8.out.trans S9, X8.out.ext S9, R8.out.ext S9, Y8.out.ext S9, by unfold oAc; rw [HS.out.1]; exact Z8.out.ext S9, by unfold oAc; rw [HS.out.1]; exact O8.out.ext S9, Nat.le_trans B8.out S9.size⟩
            case measure => simp [intOf]; omega
          | true =>
            go_wp2_with fail
            refine wp_region_quietE wr (Ext.refl _) (by kernel_rfl) (by kernel_rfl) ?_
            repeat (first | (apply wpq_skip; (focus rfl); (try simp only [Act.put, List.setIfInBounds_toArray, List.set_cons_zero, List.set_cons_succ])) | (apply wpq_take; (focus rfl); (focus (intro W hW; obtain ⟨a5, r1, r3⟩ := KS.out W hW; obtain ⟨y0, y1⟩ := KY.out W hW; go_simp; (first | done | with_reducible rfl))); (try simp only [Act.put, List.setIfInBounds_toArray, List.set_cons_zero, List.set_cons_succ])))
            refine wpq_nil ?_
            intro w9 S9
            go_wp2_with fail
            have HT := Lib.hid (HTK.out (by simp))
            (have X9 := Lib.hid (X8.out.ext S9).drew; have R9 := Lib.hid (R8.out.ext S9).drew; have Y9 := Lib.hid (Y8.out.ext S9).drew; have Z9 := Lib.hid (Z8.out.ext S9).drew; have O9 := Lib.hid ((O8.out.ext S9).ext (Ext.refl _).drew); have E9 := Lib.hid (E8.out.trans S9).drew; have B9 := Lib.hid (show w5.heap.size ≤ w9.drew.heap.size from Nat.le_trans B8.out S9.size); have y5 : w9.cell? ⟨g1, 5, none⟩ = some (.slice (some ad) a.ls.length cL) := (X8.out.ext S9).cell 5; have z5 : w9.cell? ⟨g5, 5, none⟩ = some (.slice A' (outS a r k).length c') := (Z8.out.ext S9).cell 5; have za5 : ∀ ob, (w9.drew.alloc ob).cell? ⟨g5, 5, none⟩ = some (.slice A' (outS a r k).length c') := fun ob => (Z9.out.ext ((Ext.refl _).alloc ob)).cell 5; have zb5 : ∀ ob, (w9.alloc ob).cell? ⟨g5, 5, none⟩ = some (.slice A' (outS a r k).length c') := fun ob => ((Z8.out.ext S9).ext ((Ext.refl _).alloc ob)).cell 5; have zn : ¬ g5 = w9.heap.size := (by have := (Z8.out.ext S9).lt; omega); obtain ⟨zz0, zz1⟩ := KY.out _ S9; clear a0 a1 a2 a3 a4 a5 a6)
            go_region_law (first | (refine stepV _ (by rfl) (.tmp 53) (.tmp 59) 23 (by rfl) 64 (.agg #[.int .u64 0, .int .u64 0]) 2 16 Tryd.underlying23 info_lease rfl (by decide) w5.heap.size A' (outS a r k).length c' ((outS a r k).flatMap Lz.cs) (by rfl) ⟨w9.drew.heap.size, 0, none⟩ 1 1 (Lz.cs y) (by rfl) ?_ (O9.out.1.ext ((Ext.refl _).alloc _)) rfl (cells_new w9.drew _ _) (by intro u hu; simp [Lz.cs] at hu; rcases hu with rfl | rfl <;> rfl) (by omega) (by omega) (by have := B9.out; simp at this ⊢; omega); intro A8 c8 w10 h10 q10 b10; have OO := own_app_ls (l := y) O9.out ((Ext.refl _).alloc _) h10 q10 b10; have O10 := Lib.hid OO.1; have X10 := Lib.hid ((X9.out.ext ((Ext.refl _).alloc _)).off q10 (O9.out.off (.inl (by have := GG.out; omega))).1); have R10 := Lib.hid ((R9.out.ext ((Ext.refl _).alloc _)).off q10 (O9.out.off (.inl (by have := GG.out; omega))).1); have Y10 := Lib.hid ((Y9.out.ext ((Ext.refl _).alloc _)).off q10 (O9.out.off (.inl (by have := GG.out; omega))).1); have Z10 := Lib.hid ((Z9.out.ext ((Ext.refl _).alloc _)).off q10 (O9.out.off (.inl (by have := GG.out; omega))).1); have E10 := Lib.hid (own_base E9.out O9.out.1 ((Ext.refl _).alloc _) (by have := GG.out; omega) q10); have B10 := Lib.hid (show w5.heap.size ≤ w10.heap.size from Nat.le_trans (Nat.le_trans B9.out (by simp)) q10.size); clear h10 q10 b10 OO y5 z5 zz0 zz1; have f5 : w10.frozen? ⟨g5, 5, none⟩ = false := Z10.out.frozen 5; have zc5 : w10.cell? ⟨g5, 5, none⟩ = some (.slice A' (outS a r k).length c') := Z10.out.cell 5))
            all_goals
              have HW : Hid (∃ w11, w11 = w10.setCell ⟨g5, 5, none⟩ (.slice A8 ((outS a r k).length + 1) c8)) := ⟨_, rfl⟩
              have Z11 := Lib.hid (show Arr (w10.setCell ⟨g5, 5, none⟩ (.slice A8 ((outS a r k).length + 1) c8)) g5 26 (acV (oAc a r (k + 1)) A8 c8 C6 d6) from by unfold oAc; rw [HT.out.1]; unfold acV; rw [List.length_append]; exact Z10.out.set 5 _)
              have qz := grown_setCell w10 g5 5 (.slice A8 ((outS a r k).length + 1) c8)
              have E11 := Lib.hid (E10.out.grown qz (fun q hq => by injection hq with hq; have := GG.out; omega))
              have X11 := Lib.hid (X10.out.grown qz (by have := GG.out; intro hh; injection hh; omega))
              have R11 := Lib.hid (R10.out.grown qz (by have := GG.out; intro hh; injection hh; omega))
              have Y11 := Lib.hid (Y10.out.grown qz (by have := GG.out; intro hh; injection hh; omega))
              have O11 := Lib.hid (show OwnA (w10.setCell ⟨g5, 5, none⟩ (.slice A8 ((outS a r k).length + 1) c8)) w5.heap.size (oAc a r (k + 1)) A8 c8 C6 d6 from by unfold oAc; rw [HT.out.1]; exact O10.out.keep qz (O10.out.off (.inl (by have := GG.out; omega))).1 (O10.out.off (.inl (by have := GG.out; omega))).2)
              have B11 := Lib.hid (show w5.heap.size ≤ (w10.setCell ⟨g5, 5, none⟩ (.slice A8 ((outS a r k).length + 1) c8)).heap.size from Nat.le_trans B10.out qz.size)
              clear qz HW
              go_wp2_with fail
              go_roundw
              case rel => exact ⟨k + 1, A8, c8, by omega, by go_num, by rw [HT.out.2], E11.out, X11.out, R11.out, Y11.out, Z11.out, O11.out, B11.out⟩
              case measure => simp [intOf]; omega
        · have qi : ((y.id : Int) == (r.lease : Int)) = false := by simp; omega
          have HID := Lib.hid hid
          clear hid
          go_wp2_with fail
          refine wp_region_quietE wr (Ext.refl _) (by kernel_rfl) (by kernel_rfl) ?_
          repeat (first | (apply wpq_skip; (focus rfl); (try simp only [Act.put, List.setIfInBounds_toArray, List.set_cons_zero, List.set_cons_succ])) | (apply wpq_take; (focus rfl); (focus (intro W hW; obtain ⟨a5, r1, r3⟩ := KS.out W hW; obtain ⟨y0, y1⟩ := KY.out W hW; go_simp; (first | done | with_reducible rfl))); (try simp only [Act.put, List.setIfInBounds_toArray, List.set_cons_zero, List.set_cons_succ])))
          refine wpq_nil ?_
          intro w9 S9
          go_wp2_with fail
          have HT := Lib.hid (HTK.out (.inr (.inl HID.out)))
          (have X9 := Lib.hid (X8.out.ext S9).drew; have R9 := Lib.hid (R8.out.ext S9).drew; have Y9 := Lib.hid (Y8.out.ext S9).drew; have Z9 := Lib.hid (Z8.out.ext S9).drew; have O9 := Lib.hid ((O8.out.ext S9).ext (Ext.refl _).drew); have E9 := Lib.hid (E8.out.trans S9).drew; have B9 := Lib.hid (show w5.heap.size ≤ w9.drew.heap.size from Nat.le_trans B8.out S9.size); have y5 : w9.cell? ⟨g1, 5, none⟩ = some (.slice (some ad) a.ls.length cL) := (X8.out.ext S9).cell 5; have z5 : w9.cell? ⟨g5, 5, none⟩ = some (.slice A' (outS a r k).length c') := (Z8.out.ext S9).cell 5; have za5 : ∀ ob, (w9.drew.alloc ob).cell? ⟨g5, 5, none⟩ = some (.slice A' (outS a r k).length c') := fun ob => (Z9.out.ext ((Ext.refl _).alloc ob)).cell 5; have zb5 : ∀ ob, (w9.alloc ob).cell? ⟨g5, 5, none⟩ = some (.slice A' (outS a r k).length c') := fun ob => ((Z8.out.ext S9).ext ((Ext.refl _).alloc ob)).cell 5; have zn : ¬ g5 = w9.heap.size := (by have := (Z8.out.ext S9).lt; omega); obtain ⟨zz0, zz1⟩ := KY.out _ S9; clear a0 a1 a2 a3 a4 a5 a6)
          go_region_law (first | (refine stepV _ (by rfl) (.tmp 53) (.tmp 59) 23 (by rfl) 64 (.agg #[.int .u64 0, .int .u64 0]) 2 16 Tryd.underlying23 info_lease rfl (by decide) w5.heap.size A' (outS a r k).length c' ((outS a r k).flatMap Lz.cs) (by rfl) ⟨w9.drew.heap.size, 0, none⟩ 1 1 (Lz.cs y) (by rfl) ?_ (O9.out.1.ext ((Ext.refl _).alloc _)) rfl (cells_new w9.drew _ _) (by intro u hu; simp [Lz.cs] at hu; rcases hu with rfl | rfl <;> rfl) (by omega) (by omega) (by have := B9.out; simp at this ⊢; omega); intro A8 c8 w10 h10 q10 b10; have OO := own_app_ls (l := y) O9.out ((Ext.refl _).alloc _) h10 q10 b10; have O10 := Lib.hid OO.1; have X10 := Lib.hid ((X9.out.ext ((Ext.refl _).alloc _)).off q10 (O9.out.off (.inl (by have := GG.out; omega))).1); have R10 := Lib.hid ((R9.out.ext ((Ext.refl _).alloc _)).off q10 (O9.out.off (.inl (by have := GG.out; omega))).1); have Y10 := Lib.hid ((Y9.out.ext ((Ext.refl _).alloc _)).off q10 (O9.out.off (.inl (by have := GG.out; omega))).1); have Z10 := Lib.hid ((Z9.out.ext ((Ext.refl _).alloc _)).off q10 (O9.out.off (.inl (by have := GG.out; omega))).1); have E10 := Lib.hid (own_base E9.out O9.out.1 ((Ext.refl _).alloc _) (by have := GG.out; omega) q10); have B10 := Lib.hid (show w5.heap.size ≤ w10.heap.size from Nat.le_trans (Nat.le_trans B9.out (by simp)) q10.size); clear h10 q10 b10 OO y5 z5 zz0 zz1; have f5 : w10.frozen? ⟨g5, 5, none⟩ = false := Z10.out.frozen 5; have zc5 : w10.cell? ⟨g5, 5, none⟩ = some (.slice A' (outS a r k).length c') := Z10.out.cell 5))
          all_goals
            have HW : Hid (∃ w11, w11 = w10.setCell ⟨g5, 5, none⟩ (.slice A8 ((outS a r k).length + 1) c8)) := ⟨_, rfl⟩
            have Z11 := Lib.hid (show Arr (w10.setCell ⟨g5, 5, none⟩ (.slice A8 ((outS a r k).length + 1) c8)) g5 26 (acV (oAc a r (k + 1)) A8 c8 C6 d6) from by unfold oAc; rw [HT.out.1]; unfold acV; rw [List.length_append]; exact Z10.out.set 5 _)
            have qz := grown_setCell w10 g5 5 (.slice A8 ((outS a r k).length + 1) c8)
            have E11 := Lib.hid (E10.out.grown qz (fun q hq => by injection hq with hq; have := GG.out; omega))
            have X11 := Lib.hid (X10.out.grown qz (by have := GG.out; intro hh; injection hh; omega))
            have R11 := Lib.hid (R10.out.grown qz (by have := GG.out; intro hh; injection hh; omega))
            have Y11 := Lib.hid (Y10.out.grown qz (by have := GG.out; intro hh; injection hh; omega))
            have O11 := Lib.hid (show OwnA (w10.setCell ⟨g5, 5, none⟩ (.slice A8 ((outS a r k).length + 1) c8)) w5.heap.size (oAc a r (k + 1)) A8 c8 C6 d6 from by unfold oAc; rw [HT.out.1]; exact O10.out.keep qz (O10.out.off (.inl (by have := GG.out; omega))).1 (O10.out.off (.inl (by have := GG.out; omega))).2)
            have B11 := Lib.hid (show w5.heap.size ≤ (w10.setCell ⟨g5, 5, none⟩ (.slice A8 ((outS a r k).length + 1) c8)).heap.size from Nat.le_trans B10.out qz.size)
            clear qz HW
            go_wp2_with fail
            go_roundw
            case rel => exact ⟨k + 1, A8, c8, by omega, by go_num, by rw [HT.out.2], E11.out, X11.out, R11.out, Y11.out, Z11.out, O11.out, B11.out⟩
            case measure => simp [intOf]; omega
      · have q4 : ((r.kind : Int) == 4) = false := by simpa using hk4
        have HK4 := Lib.hid hk4
        clear hk4
        go_wp2_with fail
        refine wp_region_quietE wr (Ext.refl _) (by kernel_rfl) (by kernel_rfl) ?_
        repeat (first | (apply wpq_skip; (focus rfl); (try simp only [Act.put, List.setIfInBounds_toArray, List.set_cons_zero, List.set_cons_succ])) | (apply wpq_take; (focus rfl); (focus (intro W hW; obtain ⟨a5, r1, r3⟩ := KS.out W hW; obtain ⟨y0, y1⟩ := KY.out W hW; go_simp; (first | done | with_reducible rfl))); (try simp only [Act.put, List.setIfInBounds_toArray, List.set_cons_zero, List.set_cons_succ])))
        refine wpq_nil ?_
        intro w9 S9
        go_wp2_with fail
        have HT := Lib.hid (HTK.out (.inl HK4.out))
        (have X9 := Lib.hid (X8.out.ext S9).drew; have R9 := Lib.hid (R8.out.ext S9).drew; have Y9 := Lib.hid (Y8.out.ext S9).drew; have Z9 := Lib.hid (Z8.out.ext S9).drew; have O9 := Lib.hid ((O8.out.ext S9).ext (Ext.refl _).drew); have E9 := Lib.hid (E8.out.trans S9).drew; have B9 := Lib.hid (show w5.heap.size ≤ w9.drew.heap.size from Nat.le_trans B8.out S9.size); have y5 : w9.cell? ⟨g1, 5, none⟩ = some (.slice (some ad) a.ls.length cL) := (X8.out.ext S9).cell 5; have z5 : w9.cell? ⟨g5, 5, none⟩ = some (.slice A' (outS a r k).length c') := (Z8.out.ext S9).cell 5; have za5 : ∀ ob, (w9.drew.alloc ob).cell? ⟨g5, 5, none⟩ = some (.slice A' (outS a r k).length c') := fun ob => (Z9.out.ext ((Ext.refl _).alloc ob)).cell 5; have zb5 : ∀ ob, (w9.alloc ob).cell? ⟨g5, 5, none⟩ = some (.slice A' (outS a r k).length c') := fun ob => ((Z8.out.ext S9).ext ((Ext.refl _).alloc ob)).cell 5; have zn : ¬ g5 = w9.heap.size := (by have := (Z8.out.ext S9).lt; omega); obtain ⟨zz0, zz1⟩ := KY.out _ S9; clear a0 a1 a2 a3 a4 a5 a6)
        go_region_law (first | (refine stepV _ (by rfl) (.tmp 53) (.tmp 59) 23 (by rfl) 64 (.agg #[.int .u64 0, .int .u64 0]) 2 16 Tryd.underlying23 info_lease rfl (by decide) w5.heap.size A' (outS a r k).length c' ((outS a r k).flatMap Lz.cs) (by rfl) ⟨w9.drew.heap.size, 0, none⟩ 1 1 (Lz.cs y) (by rfl) ?_ (O9.out.1.ext ((Ext.refl _).alloc _)) rfl (cells_new w9.drew _ _) (by intro u hu; simp [Lz.cs] at hu; rcases hu with rfl | rfl <;> rfl) (by omega) (by omega) (by have := B9.out; simp at this ⊢; omega); intro A8 c8 w10 h10 q10 b10; have OO := own_app_ls (l := y) O9.out ((Ext.refl _).alloc _) h10 q10 b10; have O10 := Lib.hid OO.1; have X10 := Lib.hid ((X9.out.ext ((Ext.refl _).alloc _)).off q10 (O9.out.off (.inl (by have := GG.out; omega))).1); have R10 := Lib.hid ((R9.out.ext ((Ext.refl _).alloc _)).off q10 (O9.out.off (.inl (by have := GG.out; omega))).1); have Y10 := Lib.hid ((Y9.out.ext ((Ext.refl _).alloc _)).off q10 (O9.out.off (.inl (by have := GG.out; omega))).1); have Z10 := Lib.hid ((Z9.out.ext ((Ext.refl _).alloc _)).off q10 (O9.out.off (.inl (by have := GG.out; omega))).1); have E10 := Lib.hid (own_base E9.out O9.out.1 ((Ext.refl _).alloc _) (by have := GG.out; omega) q10); have B10 := Lib.hid (show w5.heap.size ≤ w10.heap.size from Nat.le_trans (Nat.le_trans B9.out (by simp)) q10.size); clear h10 q10 b10 OO y5 z5 zz0 zz1; have f5 : w10.frozen? ⟨g5, 5, none⟩ = false := Z10.out.frozen 5; have zc5 : w10.cell? ⟨g5, 5, none⟩ = some (.slice A' (outS a r k).length c') := Z10.out.cell 5))
        all_goals
          have HW : Hid (∃ w11, w11 = w10.setCell ⟨g5, 5, none⟩ (.slice A8 ((outS a r k).length + 1) c8)) := ⟨_, rfl⟩
          have Z11 := Lib.hid (show Arr (w10.setCell ⟨g5, 5, none⟩ (.slice A8 ((outS a r k).length + 1) c8)) g5 26 (acV (oAc a r (k + 1)) A8 c8 C6 d6) from by unfold oAc; rw [HT.out.1]; unfold acV; rw [List.length_append]; exact Z10.out.set 5 _)
          have qz := grown_setCell w10 g5 5 (.slice A8 ((outS a r k).length + 1) c8)
          have E11 := Lib.hid (E10.out.grown qz (fun q hq => by injection hq with hq; have := GG.out; omega))
          have X11 := Lib.hid (X10.out.grown qz (by have := GG.out; intro hh; injection hh; omega))
          have R11 := Lib.hid (R10.out.grown qz (by have := GG.out; intro hh; injection hh; omega))
          have Y11 := Lib.hid (Y10.out.grown qz (by have := GG.out; intro hh; injection hh; omega))
          have O11 := Lib.hid (show OwnA (w10.setCell ⟨g5, 5, none⟩ (.slice A8 ((outS a r k).length + 1) c8)) w5.heap.size (oAc a r (k + 1)) A8 c8 C6 d6 from by unfold oAc; rw [HT.out.1]; exact O10.out.keep qz (O10.out.off (.inl (by have := GG.out; omega))).1 (O10.out.off (.inl (by have := GG.out; omega))).2)
          have B11 := Lib.hid (show w5.heap.size ≤ (w10.setCell ⟨g5, 5, none⟩ (.slice A8 ((outS a r k).length + 1) c8)).heap.size from Nat.le_trans B10.out qz.size)
          clear qz HW
          go_wp2_with fail
          go_roundw
          case rel => exact ⟨k + 1, A8, c8, by omega, by go_num, by rw [HT.out.2], E11.out, X11.out, R11.out, Y11.out, Z11.out, O11.out, B11.out⟩
          case measure => simp [intOf]; omega
    · have k1 : ¬ (k : Int) < (a.ls.length : Int) := by omega
      obtain rfl : k = a.ls.length := by omega
      have HEN : Hid (outS a r a.ls.length = if r.kind = 4 then a.ls.eraseIdx (i0 a r) else a.ls) := Lib.hid (outS_end H0.out)
      have hper : r.kind = 5 → a.per < 65536 := fun hk => (chk_close (a := a) (lease := r.lease) (n := r.n) (by have := (chk_zero H0.out).2.2; rw [hk] at this; exact this)).2
      obtain ⟨r0, r1, r2, r3, r4, r5⟩ := rc_cells R8.out
      rcases HZ.out with hk | hk | hk | hk | hk
      · have HAP : Hid (appA a r = { a with cap := r.n }) := by show _ = _; unfold appA; simp only [hk]; rfl
        have hEQ : oAc a r a.ls.length = a := by unfold oAc; rw [HEN.out, if_neg (by omega)]
        rw [hEQ] at Z8 O8
        clear hEQ
        go_wp2_with (first | ((with_reducible show wpList _ _ _ ({ dst := none, op := Op.store 22 _ _, type := _, pos := _, after := _, guard := _ } :: _) _ _); refine stF _ rfl 22 _ _ rfl g5 1 (.int .u64 r.n) _ _ rfl rfl Z8.out (by show 1 < 7; decide) size_u64 rfl ?_; intro w9 hs kz qz; have Z9 := Lib.hid (show Arr w9 g5 26 (acV ({ a with cap := r.n } : Ac) A' c' C6 d6) from kz); have E9 := Lib.hid (E8.out.grown qz (fun q hq => by injection hq with hq; have := GG.out; omega)); have Y9 := Lib.hid (Y8.out.grown qz (by have := GG.out; intro hh; injection hh; omega)); have O9 : Hid (OwnA w9 w5.heap.size ({ a with cap := r.n } : Ac) A' c' C6 d6) := O8.out.keep qz (O8.out.off (.inl (by have := GG.out; omega))).1 (O8.out.off (.inl (by have := GG.out; omega))).2; clear hs kz qz) | ((with_reducible show wpList _ _ _ ({ dst := some 126, op := Op.load 26 _, type := _, pos := _, after := _, guard := _ } :: _) _ _); refine ldA _ rfl 26 26 _ rfl g5 rfl _ _ Z9.out Tryd.underlying26 rfl size_acct ?_) | ((with_reducible show wpList _ _ _ ({ dst := none, op := Op.store 26 (Operand.tmp 4) _, type := _, pos := _, after := _, guard := _ } :: _) _ _); refine stA _ rfl 26 26 _ _ rfl g4 _ (acV (kb1 a r) A' c' C6 d6) rfl rfl Y9.out size_acct rfl (ac_one _ _ _ _ _) ?_; intro wf hs kf gf; have Zf := Lib.hid kf; have Ef := Lib.hid (E9.out.grown gf (fun q hq => by injection hq with hq; have := GG.out; omega)); have Of := Lib.hid ((O9.out.keep gf (O9.out.off (.inl (by have := GG.out; omega))).1 (O9.out.off (.inl (by have := GG.out; omega))).2).lower (b := w.heap.size) (by have := GG.out; omega)); clear hs kf gf))
        exact ret_row Tryd.results89 g4 _ _ _ rfl Zf.out Tryd.underlying26 rfl size_acct (by rw [HAP.out]; exact ⟨A', c', C6, d6, rfl, Of.out, Ef.out⟩)
      · have HAP : Hid (appA a r = { a with bits := r.bits }) := by show _ = _; unfold appA; simp only [hk]; rfl
        have hEQ : oAc a r a.ls.length = a := by unfold oAc; rw [HEN.out, if_neg (by omega)]
        rw [hEQ] at Z8 O8
        clear hEQ
        go_wp2_with (first | ((with_reducible show wpList _ _ _ ({ dst := none, op := Op.store 22 _ _, type := _, pos := _, after := _, guard := _ } :: _) _ _); refine stF _ rfl 22 _ _ rfl g5 3 (.int .u64 r.bits) _ _ rfl rfl Z8.out (by show 3 < 7; decide) size_u64 rfl ?_; intro w9 hs kz qz; have Z9 := Lib.hid (show Arr w9 g5 26 (acV ({ a with bits := r.bits } : Ac) A' c' C6 d6) from kz); have E9 := Lib.hid (E8.out.grown qz (fun q hq => by injection hq with hq; have := GG.out; omega)); have Y9 := Lib.hid (Y8.out.grown qz (by have := GG.out; intro hh; injection hh; omega)); have O9 : Hid (OwnA w9 w5.heap.size ({ a with bits := r.bits } : Ac) A' c' C6 d6) := O8.out.keep qz (O8.out.off (.inl (by have := GG.out; omega))).1 (O8.out.off (.inl (by have := GG.out; omega))).2; clear hs kz qz) | ((with_reducible show wpList _ _ _ ({ dst := some 126, op := Op.load 26 _, type := _, pos := _, after := _, guard := _ } :: _) _ _); refine ldA _ rfl 26 26 _ rfl g5 rfl _ _ Z9.out Tryd.underlying26 rfl size_acct ?_) | ((with_reducible show wpList _ _ _ ({ dst := none, op := Op.store 26 (Operand.tmp 4) _, type := _, pos := _, after := _, guard := _ } :: _) _ _); refine stA _ rfl 26 26 _ _ rfl g4 _ (acV (kb2 a r) A' c' C6 d6) rfl rfl Y9.out size_acct rfl (ac_one _ _ _ _ _) ?_; intro wf hs kf gf; have Zf := Lib.hid kf; have Ef := Lib.hid (E9.out.grown gf (fun q hq => by injection hq with hq; have := GG.out; omega)); have Of := Lib.hid ((O9.out.keep gf (O9.out.off (.inl (by have := GG.out; omega))).1 (O9.out.off (.inl (by have := GG.out; omega))).2).lower (b := w.heap.size) (by have := GG.out; omega)); clear hs kf gf))
        exact ret_row Tryd.results89 g4 _ _ _ rfl Zf.out Tryd.underlying26 rfl size_acct (by rw [HAP.out]; exact ⟨A', c', C6, d6, rfl, Of.out, Ef.out⟩)
      · have HAP : Hid (appA a r = ({ a with ls := a.ls ++ [⟨r.lease, r.n⟩] } : Ac)) := by show _ = _; unfold appA; simp only [hk]; rfl
        have hEQ : oAc a r a.ls.length = a := by unfold oAc; rw [HEN.out, if_neg (by omega)]
        rw [hEQ] at Z8 O8
        clear hEQ
        have z5 : wr.cell? ⟨g5, 5, none⟩ = some (.slice A' a.ls.length c') := Z8.out.cell 5
        go_wp2_with (first | (at_builtin; refine appV _ rfl (.tmp 77) (.tmp 83) 23 rfl 64 (.agg #[.int .u64 0, .int .u64 0]) 2 16 Tryd.underlying23 info_lease rfl (by decide) w5.heap.size A' a.ls.length c' (a.ls.flatMap Lz.cs) rfl ⟨wr.heap.size, 0, none⟩ 1 1 (Lz.cs ⟨r.lease, r.n⟩) rfl ?_ (O8.out.1.ext ((Ext.refl _).alloc _)) rfl (cells_new wr _ _) (by intro u hu; simp [Lz.cs] at hu; rcases hu with rfl | rfl <;> rfl) (by omega) (by omega) (by have := B8.out; simp; omega); intro A9 c9 w9 h10 q10 b10; have OO := own_app_ls (l := ⟨r.lease, r.n⟩) O8.out ((Ext.refl _).alloc _) h10 q10 b10; have O10 := Lib.hid OO.1; have Y10 := Lib.hid ((Y8.out.ext ((Ext.refl _).alloc _)).off q10 (O8.out.off (.inl (by have := GG.out; omega))).1); have Z10 := Lib.hid ((Z8.out.ext ((Ext.refl _).alloc _)).off q10 (O8.out.off (.inl (by have := GG.out; omega))).1); have E10 := Lib.hid (own_base E8.out O8.out.1 ((Ext.refl _).alloc _) (by have := GG.out; omega) q10); clear h10 q10 b10 OO r0 r1 r2 r3 r4 r5 a0 a1 a2 a3 a4 a5 a6 z5) | ((with_reducible show wpList _ _ _ ({ dst := none, op := Op.store 23 _ _, type := _, pos := _, after := _, guard := _ } :: _) _ _); refine stF _ rfl 23 _ _ rfl g5 5 (.slice A9 (a.ls.length + 1) c9) _ _ rfl rfl Z10.out (by show 5 < 7; decide) size_lsl rfl ?_; intro w11 hs kz qz; have Z9 := Lib.hid (show Arr w11 g5 26 (acV ({ a with ls := a.ls ++ [⟨r.lease, r.n⟩] } : Ac) A9 c9 C6 d6) from by unfold acV; rw [List.length_append]; exact kz); have E9 := Lib.hid (E10.out.grown qz (fun q hq => by injection hq with hq; have := GG.out; omega)); have Y9 := Lib.hid (Y10.out.grown qz (by have := GG.out; intro hh; injection hh; omega)); have O9 : Hid (OwnA w11 w5.heap.size ({ a with ls := a.ls ++ [⟨r.lease, r.n⟩] } : Ac) A9 c9 C6 d6) := O10.out.keep qz (O10.out.off (.inl (by have := GG.out; omega))).1 (O10.out.off (.inl (by have := GG.out; omega))).2; clear hs kz qz) | ((with_reducible show wpList _ _ _ ({ dst := some 126, op := Op.load 26 _, type := _, pos := _, after := _, guard := _ } :: _) _ _); refine ldA _ rfl 26 26 _ rfl g5 rfl _ _ Z9.out Tryd.underlying26 rfl size_acct ?_) | ((with_reducible show wpList _ _ _ ({ dst := none, op := Op.store 26 (Operand.tmp 4) _, type := _, pos := _, after := _, guard := _ } :: _) _ _); refine stA _ rfl 26 26 _ _ rfl g4 _ (acV (kb3 a r) A9 c9 C6 d6) rfl rfl Y9.out size_acct rfl (ac_one _ _ _ _ _) ?_; intro wf hs kf gf; have Zf := Lib.hid kf; have Ef := Lib.hid (E9.out.grown gf (fun q hq => by injection hq with hq; have := GG.out; omega)); have Of := Lib.hid ((O9.out.keep gf (O9.out.off (.inl (by have := GG.out; omega))).1 (O9.out.off (.inl (by have := GG.out; omega))).2).lower (b := w.heap.size) (by have := GG.out; omega)); clear hs kf gf))
        exact ret_row Tryd.results89 g4 _ _ _ rfl Zf.out Tryd.underlying26 rfl size_acct (by rw [HAP.out]; exact ⟨A9, c9, C6, d6, rfl, Of.out, Ef.out⟩)
      · have HAP : Hid (appA a r = ({ a with ls := a.ls.eraseIdx (i0 a r), used := addN a.used r.n } : Ac)) := by show _ = _; unfold appA; simp only [hk]; rfl
        have hEQ : oAc a r a.ls.length = ({ a with ls := a.ls.eraseIdx (i0 a r) } : Ac) := by unfold oAc; rw [HEN.out, if_pos hk]
        rw [hEQ] at Z8 O8
        clear hEQ
        have HAD : Hid (∀ W, Calls Tryd.prog 59 #[.int .u64 a.used, .int .u64 r.n] W fun e w' => e = .returned (.int .u64 (addN a.used r.n)) ∧ W = w') := fun W => radd_calls a.used r.n W OK.out.2.2.1 RK.out.2.2.1
        generalize addN a.used r.n = U at *
        go_wp2_with (first | (go_at_call 59; refine (HAD.out _).mono ?_; rintro e w9 ⟨rfl, rfl⟩) | ((with_reducible show wpList _ _ _ ({ dst := none, op := Op.store 22 _ _, type := _, pos := _, after := _, guard := _ } :: _) _ _); refine stF _ rfl 22 _ _ rfl g5 2 (.int .u64 U) _ _ rfl rfl Z8.out (by show 2 < 7; decide) size_u64 rfl ?_; intro w9 hs kz qz; have Z9 := Lib.hid (show Arr w9 g5 26 (acV ({ a with ls := a.ls.eraseIdx (i0 a r), used := U } : Ac) A' c' C6 d6) from kz); have E9 := Lib.hid (E8.out.grown qz (fun q hq => by injection hq with hq; have := GG.out; omega)); have Y9 := Lib.hid (Y8.out.grown qz (by have := GG.out; intro hh; injection hh; omega)); have O9 : Hid (OwnA w9 w5.heap.size ({ a with ls := a.ls.eraseIdx (i0 a r), used := U } : Ac) A' c' C6 d6) := O8.out.keep qz (O8.out.off (.inl (by have := GG.out; omega))).1 (O8.out.off (.inl (by have := GG.out; omega))).2; clear hs kz qz) | ((with_reducible show wpList _ _ _ ({ dst := some 126, op := Op.load 26 _, type := _, pos := _, after := _, guard := _ } :: _) _ _); refine ldA _ rfl 26 26 _ rfl g5 rfl _ _ Z9.out Tryd.underlying26 rfl size_acct ?_) | ((with_reducible show wpList _ _ _ ({ dst := none, op := Op.store 26 (Operand.tmp 4) _, type := _, pos := _, after := _, guard := _ } :: _) _ _); refine stA _ rfl 26 26 _ _ rfl g4 _ (acV (kb4 a r U) A' c' C6 d6) rfl rfl Y9.out size_acct rfl (ac_one _ _ _ _ _) ?_; intro wf hs kf gf; have Zf := Lib.hid kf; have Ef := Lib.hid (E9.out.grown gf (fun q hq => by injection hq with hq; have := GG.out; omega)); have Of := Lib.hid ((O9.out.keep gf (O9.out.off (.inl (by have := GG.out; omega))).1 (O9.out.off (.inl (by have := GG.out; omega))).2).lower (b := w.heap.size) (by have := GG.out; omega)); clear hs kf gf))
        exact ret_row Tryd.results89 g4 _ _ _ rfl Zf.out Tryd.underlying26 rfl size_acct (by rw [HAP.out]; exact ⟨A', c', C6, d6, rfl, Of.out, Ef.out⟩)
      · have HAP : Hid (appA a r = ({ a with cl := a.cl ++ [stmtOf a], per := a.per + 1, used := 0 } : Ac)) := by show _ = _; unfold appA; simp only [hk]; rfl
        have hEQ : oAc a r a.ls.length = a := by unfold oAc; rw [HEN.out, if_neg (by omega)]
        rw [hEQ] at Z8 O8
        clear hEQ
        have hp5 := hper hk
        have HDU : Hid (∀ W, Calls Tryd.prog 48 #[.int .u64 a.used, .int .u64 a.bits] W (RetT W (.int .u64 (dueV a.used a.bits)) (.bool (prB a.bits)))) := fun W => rdue_calls a.used a.bits W OK.out.2.2.1 OK.out.2.2.2.1
        have HST : Hid (stmtOf a = ⟨a.ten, a.per, a.used, a.cap, a.bits, dueV a.used a.bits⟩) := rfl
        rw [HST.out] at HAP
        clear HST
        generalize dueV a.used a.bits = DV at *
        have u1 : IntKind.u64.wrap ((a.per : Int) + 1) = ((a.per + 1 : Nat) : Int) := by rw [IntWalk.u64_in _ (by omega)]; omega
        clear hper
        go_wp2_with (first | (go_at_call 48; refine (HDU.out _).mono ?_; rintro e wq ⟨rfl, eq⟩; replace X8 := Lib.hid (X8.out.ext eq); replace Y8 := Lib.hid (Y8.out.ext eq); replace Z8 := Lib.hid (Z8.out.ext eq); replace O8 := Lib.hid (O8.out.ext eq); replace E8 := Lib.hid (E8.out.trans eq); replace B8 := Lib.hid (Nat.le_trans B8.out eq.size); clear eq a0 a1 a2 a3 a4 a5 a6 r0 r1 r2 r3 r4 r5 R8; obtain ⟨a0, a1, a2, a3, a4, a5, a6⟩ := ac_cells X8.out; have z6 : wq.cell? ⟨g5, 6, none⟩ = some (.slice C6 a.cl.length d6) := Z8.out.cell 6) | (at_builtin; refine appV _ rfl (.tmp 105) (.tmp 118) 24 rfl 70 (.agg #[.string ByteArray.empty, .int .u64 0, .int .u64 0, .int .u64 0, .int .u64 0, .int .u64 0]) 6 56 Tryd.underlying24 info_stmt rfl (by decide) w5.heap.size C6 a.cl.length d6 (a.cl.flatMap St.cs) rfl ⟨wq.heap.size, 0, none⟩ 1 1 (St.cs ⟨a.ten, a.per, a.used, a.cap, a.bits, DV⟩) rfl ?_ (O8.out.2.1.ext ((Ext.refl _).alloc _)) rfl (cells_new wq _ _) (by intro u hu; simp [St.cs] at hu; rcases hu with rfl | rfl | rfl | rfl | rfl | rfl <;> rfl) (by omega) (by omega) (by have := B8.out; simp; omega); intro C9 d9 w9 h10 q10 b10; have OO := own_app_cl (l := ⟨a.ten, a.per, a.used, a.cap, a.bits, DV⟩) O8.out ((Ext.refl _).alloc _) h10 q10 b10; have O10 := Lib.hid OO.1; have X10 := Lib.hid ((X8.out.ext ((Ext.refl _).alloc _)).off q10 (O8.out.off (.inl (by have := GG.out; omega))).2); have Y10 := Lib.hid ((Y8.out.ext ((Ext.refl _).alloc _)).off q10 (O8.out.off (.inl (by have := GG.out; omega))).2); have Z10 := Lib.hid ((Z8.out.ext ((Ext.refl _).alloc _)).off q10 (O8.out.off (.inl (by have := GG.out; omega))).2); have E10 := Lib.hid (own_base E8.out O8.out.2.1 ((Ext.refl _).alloc _) (by have := GG.out; omega) q10); clear h10 q10 b10 OO a0 a1 a2 a3 a4 a5 a6 z6) | ((with_reducible show wpList _ _ _ ({ dst := none, op := Op.store 24 _ _, type := _, pos := _, after := _, guard := _ } :: _) _ _); refine stF _ rfl 24 _ _ rfl g5 6 (.slice C9 (a.cl.length + 1) d9) _ _ rfl rfl Z10.out (by show 6 < 7; decide) size_stl rfl ?_; intro w11 hs kz qz; have Z11 := Lib.hid (show Arr w11 g5 26 (acV ({ a with cl := a.cl ++ [⟨a.ten, a.per, a.used, a.cap, a.bits, DV⟩] } : Ac) A' c' C9 d9) from by unfold acV; rw [List.length_append]; exact kz); have E11 := Lib.hid (E10.out.grown qz (fun q hq => by injection hq with hq; have := GG.out; omega)); have X11 := Lib.hid (X10.out.grown qz (by have := GG.out; intro hh; injection hh; omega)); have Y11 := Lib.hid (Y10.out.grown qz (by have := GG.out; intro hh; injection hh; omega)); have O11 : Hid (OwnA w11 w5.heap.size ({ a with cl := a.cl ++ [⟨a.ten, a.per, a.used, a.cap, a.bits, DV⟩] } : Ac) A' c' C9 d9) := O10.out.keep qz (O10.out.off (.inl (by have := GG.out; omega))).1 (O10.out.off (.inl (by have := GG.out; omega))).2; have a4 : w11.cell? ⟨g1, 4, none⟩ = some (.int .u64 a.per) := X11.out.cell 4; clear hs kz qz) | ((with_reducible show wpList _ _ _ ({ dst := none, op := Op.store 22 (Operand.tmp 124) _, type := _, pos := _, after := _, guard := _ } :: _) _ _); refine stF _ rfl 22 _ _ rfl g5 4 (.int .u64 (a.per + 1 : Nat)) _ _ rfl rfl Z11.out (by show 4 < 7; decide) size_u64 rfl ?_; intro w12 hs kz qz; have Z12 := Lib.hid (show Arr w12 g5 26 (acV ({ a with cl := a.cl ++ [⟨a.ten, a.per, a.used, a.cap, a.bits, DV⟩], per := a.per + 1 } : Ac) A' c' C9 d9) from kz); have E12 := Lib.hid (E11.out.grown qz (fun q hq => by injection hq with hq; have := GG.out; omega)); have Y12 := Lib.hid (Y11.out.grown qz (by have := GG.out; intro hh; injection hh; omega)); have O12 : Hid (OwnA w12 w5.heap.size ({ a with cl := a.cl ++ [⟨a.ten, a.per, a.used, a.cap, a.bits, DV⟩], per := a.per + 1 } : Ac) A' c' C9 d9) := O11.out.keep qz (O11.out.off (.inl (by have := GG.out; omega))).1 (O11.out.off (.inl (by have := GG.out; omega))).2; clear hs kz qz) | ((with_reducible show wpList _ _ _ ({ dst := none, op := Op.store 22 (Operand.tmp 125) _, type := _, pos := _, after := _, guard := _ } :: _) _ _); refine stF _ rfl 22 _ _ rfl g5 2 (.int .u64 0) _ _ rfl rfl Z12.out (by show 2 < 7; decide) size_u64 rfl ?_; intro w13 hs kz qz; have Z9 := Lib.hid (show Arr w13 g5 26 (acV ({ a with cl := a.cl ++ [⟨a.ten, a.per, a.used, a.cap, a.bits, DV⟩], per := a.per + 1, used := 0 } : Ac) A' c' C9 d9) from kz); have E9 := Lib.hid (E12.out.grown qz (fun q hq => by injection hq with hq; have := GG.out; omega)); have Y9 := Lib.hid (Y12.out.grown qz (by have := GG.out; intro hh; injection hh; omega)); have O9 : Hid (OwnA w13 w5.heap.size ({ a with cl := a.cl ++ [⟨a.ten, a.per, a.used, a.cap, a.bits, DV⟩], per := a.per + 1, used := 0 } : Ac) A' c' C9 d9) := O12.out.keep qz (O12.out.off (.inl (by have := GG.out; omega))).1 (O12.out.off (.inl (by have := GG.out; omega))).2; clear hs kz qz) | ((with_reducible show wpList _ _ _ ({ dst := some 126, op := Op.load 26 _, type := _, pos := _, after := _, guard := _ } :: _) _ _); refine ldA _ rfl 26 26 _ rfl g5 rfl _ _ Z9.out Tryd.underlying26 rfl size_acct ?_) | ((with_reducible show wpList _ _ _ ({ dst := none, op := Op.store 26 (Operand.tmp 4) _, type := _, pos := _, after := _, guard := _ } :: _) _ _); refine stA _ rfl 26 26 _ _ rfl g4 _ (acV (kb5 a DV) A' c' C9 d9) rfl rfl Y9.out size_acct rfl (ac_one _ _ _ _ _) ?_; intro wf hs kf gf; have Zf := Lib.hid kf; have Ef := Lib.hid (E9.out.grown gf (fun q hq => by injection hq with hq; have := GG.out; omega)); have Of := Lib.hid ((O9.out.keep gf (O9.out.off (.inl (by have := GG.out; omega))).1 (O9.out.off (.inl (by have := GG.out; omega))).2).lower (b := w.heap.size) (by have := GG.out; omega)); clear hs kf gf))
        exact ret_row Tryd.results89 g4 _ _ _ rfl Zf.out Tryd.underlying26 rfl size_acct (by rw [HAP.out]; exact ⟨A', c', C9, d9, rfl, Of.out, Ef.out⟩)
end Go.Proofs.YtkbjnlbbfapgdaaDoor

namespace Go.Proofs.YtkbjnlbbfapgdaaDoor
open Go.RowKit

theorem RdL.cells_at {w : World} {A : Option Addr} {xs : List Ax} (h : RdL w A xs) {i : Nat} (hi : i < xs.length) : ∃ ad, A = some ad ∧ ∀ W, Ext w W → W.cell? (ad.add (i * 7)) = some (.string xs[i].a.ten) ∧ W.cell? ⟨(ad.add (i * 7)).block, (ad.add (i * 7)).off + 1, none⟩ = some (.int .u64 xs[i].a.cap) ∧ W.cell? ⟨(ad.add (i * 7)).block, (ad.add (i * 7)).off + 2, none⟩ = some (.int .u64 xs[i].a.used) ∧
    W.cell? ⟨(ad.add (i * 7)).block, (ad.add (i * 7)).off + 3, none⟩ = some (.int .u64 xs[i].a.bits) ∧ W.cell? ⟨(ad.add (i * 7)).block, (ad.add (i * 7)).off + 4, none⟩ = some (.int .u64 xs[i].a.per) ∧ W.cell? ⟨(ad.add (i * 7)).block, (ad.add (i * 7)).off + 5, none⟩ = some (.slice xs[i].AL xs[i].a.ls.length xs[i].cL) ∧ W.cell? ⟨(ad.add (i * 7)).block, (ad.add (i * 7)).off + 6, none⟩ = some (.slice xs[i].AC xs[i].a.cl.length xs[i].cC) := by
  obtain ⟨ad, ha, _⟩ := h.rd.seven hi
  refine ⟨ad, ha, fun W e => ?_⟩
  obtain ⟨ad', h1, h2⟩ := (h.rd.ext e).seven hi
  rw [ha] at h1
  injection h1 with h1
  subst h1
  exact h2

set_option maxHeartbeats 8000000 in
theorem rlsame_calls (sa sb : Nat) (A B : Option Addr) (c d : Nat) (xs ys : List Ax) (w : World) (hx : RdL w A xs) (hy : RdL w B ys) (hxo : ∀ x ∈ xs, x.a.ok) (hyo : ∀ x ∈ ys, x.a.ok) (hl : xs.length ≤ 100000) :
    Calls Tryd.prog 29 #[lgA sa A xs.length c, lgA sb B ys.length d] w (RetV w (.bool (decide (sa = sb ∧ acs xs = acs ys)))) := by
  have HX := Lib.hid hx
  have HY := Lib.hid hy
  have HXO := Lib.hid hxo
  have HYO := Lib.hid hyo
  clear hx hy hxo hyo
  unfold lgA
  by_cases hs : sa = sb
  case neg =>
    rw [decide_eq_false (fun h => hs h.1)]
    have q1 : ((sa : Int) != (sb : Int)) = true := by simp; omega
    clear hs
    go_enter Tryd.func29, Tryd.ntmps29
    go_wp2_with (first
      | ((with_reducible show wpList _ _ _ ({ dst := some 2, op := Op.box 40 _, type := _, pos := _, after := _, guard := _ } :: _) _ _); refine bxA _ rfl 40 _ rfl _ rfl ?_; intro g1 w1 hg hs1 k1 e1; have X0 := Lib.hid k1; have E0 := Lib.hid e1; clear hg hs1 k1 e1)
      | ((with_reducible show wpList _ _ _ ({ dst := some 3, op := Op.box 40 _, type := _, pos := _, after := _, guard := _ } :: _) _ _); refine bxA _ rfl 40 _ rfl _ rfl ?_; intro g3 w3 hg hs1 k1 e1; have Y1 := Lib.hid k1; have X1 := Lib.hid (X0.out.ext e1); have E1 := Lib.hid (E0.out.trans e1); obtain ⟨a0, a1⟩ := lg_cells X1.out; obtain ⟨c0, c1⟩ := lg_cells k1; clear hg hs1 k1 e1 X0 E0))
    go_ret
    exact ⟨rfl, E1.out⟩
  case pos =>
  by_cases hn : xs.length = ys.length
  case neg =>
    rw [decide_eq_false (fun h => hn (by have := congrArg List.length h.2; simpa using this))]
    have q1 : ((sa : Int) != (sb : Int)) = false := by simp [hs]
    have q2 : ((xs.length : Int) != (ys.length : Int)) = true := by simp; omega
    clear hs hn
    go_enter Tryd.func29, Tryd.ntmps29
    go_wp2_with (first
      | ((with_reducible show wpList _ _ _ ({ dst := some 2, op := Op.box 40 _, type := _, pos := _, after := _, guard := _ } :: _) _ _); refine bxA _ rfl 40 _ rfl _ rfl ?_; intro g1 w1 hg hs1 k1 e1; have X0 := Lib.hid k1; have E0 := Lib.hid e1; clear hg hs1 k1 e1)
      | ((with_reducible show wpList _ _ _ ({ dst := some 3, op := Op.box 40 _, type := _, pos := _, after := _, guard := _ } :: _) _ _); refine bxA _ rfl 40 _ rfl _ rfl ?_; intro g3 w3 hg hs1 k1 e1; have Y1 := Lib.hid k1; have X1 := Lib.hid (X0.out.ext e1); have E1 := Lib.hid (E0.out.trans e1); obtain ⟨a0, a1⟩ := lg_cells X1.out; obtain ⟨c0, c1⟩ := lg_cells k1; clear hg hs1 k1 e1 X0 E0))
    go_ret
    exact ⟨rfl, E1.out⟩
  case pos =>
    have HNN := Lib.hid hn
    have HT : Hid ((∀ j (h : j < xs.length) (h2 : j < ys.length), xs[j].a = ys[j].a) → decide (sa = sb ∧ acs xs = acs ys) = true) := fun h => decide_eq_true ⟨hs, List.ext_getElem (by simpa using hn) (fun j h1 h2 => by simpa [acs] using h j (by simpa using h1) (by simpa using h2))⟩
    have HF : Hid (∀ j (h : j < xs.length) (h2 : j < ys.length), xs[j].a ≠ ys[j].a → decide (sa = sb ∧ acs xs = acs ys) = false) := fun j h h2 hne => decide_eq_false (fun he => hne (by
      have := congrArg (fun l => l[j]?) he.2
      rw [acs_get h, acs_get h2] at this
      injection this))
    have q1 : ((sa : Int) != (sb : Int)) = false := by simp [hs]
    have q2 : ((xs.length : Int) != (ys.length : Int)) = false := by simp [hn]
    generalize decide (sa = sb ∧ acs xs = acs ys) = R at *
    clear hs hn
    go_enter Tryd.func29, Tryd.ntmps29
    go_wp2_with (first
      | ((with_reducible show wpList _ _ _ ({ dst := some 2, op := Op.box 40 _, type := _, pos := _, after := _, guard := _ } :: _) _ _); refine bxA _ rfl 40 _ rfl _ rfl ?_; intro g1 w1 hg hs1 k1 e1; have X0 := Lib.hid k1; have E0 := Lib.hid e1; clear hg hs1 k1 e1)
      | ((with_reducible show wpList _ _ _ ({ dst := some 3, op := Op.box 40 _, type := _, pos := _, after := _, guard := _ } :: _) _ _); refine bxA _ rfl 40 _ rfl _ rfl ?_; intro g3 w3 hg hs1 k1 e1; have Y1 := Lib.hid k1; have X1 := Lib.hid (X0.out.ext e1); have E1 := Lib.hid (E0.out.trans e1); obtain ⟨a0, a1⟩ := lg_cells X1.out; obtain ⟨c0, c1⟩ := lg_cells k1; clear hg hs1 k1 e1 X0 E0))
    clear a0 a1 c0 c1 q1 q2
    go_loopw [5] (fun i wr => ∃ k : Nat, k ≤ xs.length ∧ i = .int .i64 k ∧ Ext w3 wr ∧ (∀ j (h : j < xs.length) (h2 : j < ys.length), j < k → xs[j].a = ys[j].a)) (fun i _ => xs.length - (intOf i).toNat)
    case atStart => exact ⟨0, by omega, rfl, Ext.refl _, fun j h h2 hj => by omega⟩
    case round =>
      obtain ⟨k, hk, rfl, hE, hr⟩ := hrel
      have HR := Lib.hid hr
      have E2 := Lib.hid hE
      have F2 := Lib.hid (E1.out.trans hE)
      have X2 := Lib.hid (X1.out.ext hE)
      have Y2 := Lib.hid (Y1.out.ext hE)
      clear hr hE
      obtain ⟨a0, a1⟩ := lg_cells X2.out
      by_cases hlt : k < xs.length
      · have hlt2 : k < ys.length := by have := HNN.out; omega
        have k1 : (k : Int) < (xs.length : Int) := by omega
        have k2 : (k : Int) < (ys.length : Int) := by omega
        obtain ⟨ad, hA, hxc⟩ := (⟨HX.out.rd.ext F2.out, fun x hx => (HX.out.each x hx).ext F2.out⟩ : RdL wr A xs).cells_at hlt
        obtain ⟨bd, hB, hyc⟩ := (⟨HY.out.rd.ext F2.out, fun x hx => (HY.out.each x hx).ext F2.out⟩ : RdL wr B ys).cells_at hlt2
        have hxi := (HX.out.each _ (List.getElem_mem hlt)).ext F2.out
        have hyi := (HY.out.each _ (List.getElem_mem hlt2)).ext F2.out
        have hx5 := HXO.out _ (List.getElem_mem hlt)
        have hy5 := HYO.out _ (List.getElem_mem hlt2)
        have HFk := Lib.hid (HF.out k hlt hlt2)
        have HRk : Hid (xs[k].a = ys[k].a → ∀ j (h : j < xs.length) (h2 : j < ys.length), j < k + 1 → xs[j].a = ys[j].a) := fun h j hj hj2 hjk => by
          rcases Nat.lt_or_ge j k with h2 | h2
          · exact HR.out j hj hj2 h2
          · obtain rfl : j = k := by omega
            exact h
        subst hA hB
        generalize xs[k] = x at *
        generalize ys[k] = y at *
        have HSM : Hid (∀ W, Ext wr W → Calls Tryd.prog 20 #[(.agg #[.string x.a.ten, .int .u64 x.a.cap, .int .u64 x.a.used, .int .u64 x.a.bits, .int .u64 x.a.per, .slice x.AL x.a.ls.length x.cL, .slice x.AC x.a.cl.length x.cC]), (.agg #[.string y.a.ten, .int .u64 y.a.cap, .int .u64 y.a.used, .int .u64 y.a.bits, .int .u64 y.a.per, .slice y.AL y.a.ls.length y.cL, .slice y.AC y.a.cl.length y.cC])] W (RetV W (.bool (decide (x.a = y.a))))) := fun W e => rasame_calls x.a y.a x.AL x.AC y.AL y.AC x.cL x.cC y.cL y.cC W (hxi.ext e).rd (hyi.ext e).rd hx5.2.2.2.2.2.2.2.1 hx5.2.2.2.2.2.2.2.2 hy5.2.2.2.2.2.2.2.1 hy5.2.2.2.2.2.2.2.2
        have KS : Hid (∀ W, Ext wr W → _) := fun W e => And.intro ((X2.out.ext e).cell 1) (And.intro ((Y2.out.ext e).cell 1) (And.intro (hxc W e) (hyc W e)))
        clear hxc hyc hxi hyi hx5 hy5
        by_cases he : x.a = y.a
        · have HRR := Lib.hid (HRk.out he)
          rw [decide_eq_true he] at HSM
          clear HRk HFk he
          go_wp2_with fail
          refine wp_region_quietE wr (Ext.refl _) (by kernel_rfl) (by kernel_rfl) ?_
          repeat (first | (apply wpq_skip; (focus rfl); (try simp only [Act.put, List.setIfInBounds_toArray, List.set_cons_zero, List.set_cons_succ])) | ((with_reducible show QGoal _ _ _ _ ({ dst := _, op := Op.call { callee := Callee.value (Operand.func 20), args := _, argTypes := _ }, type := _, pos := _, after := _, guard := _ } :: _) _); apply wpq_call (hc := HSM.out); (focus rfl); (focus (intro W hW; go_simp; (first | done | with_reducible rfl))); (try simp only [Act.put, List.setIfInBounds_toArray, List.set_cons_zero, List.set_cons_succ])) | (apply wpq_take; (focus rfl); (focus (intro W hW; obtain ⟨b1, d1, ⟨x0, x1, x2, x3, x4, x5, x6⟩, ⟨y0, y1, y2, y3, y4, y5, y6⟩⟩ := KS.out W hW; go_simp; (first | done | with_reducible rfl))); (try simp only [Act.put, List.setIfInBounds_toArray, List.set_cons_zero, List.set_cons_succ])))
          refine wpq_nil ?_
          intro w9 S9
          go_wp2_with fail
          go_roundw
          case rel => exact ⟨k + 1, by omega, by go_num, E2.out.trans S9, HRR.out⟩
          case measure => simp [intOf]; omega
        · have HFF := Lib.hid (HFk.out he)
          rw [decide_eq_false he] at HSM
          clear HRk HFk he
          go_wp2_with fail
          refine wp_region_quietE wr (Ext.refl _) (by kernel_rfl) (by kernel_rfl) ?_
          repeat (first | (apply wpq_skip; (focus rfl); (try simp only [Act.put, List.setIfInBounds_toArray, List.set_cons_zero, List.set_cons_succ])) | ((with_reducible show QGoal _ _ _ _ ({ dst := _, op := Op.call { callee := Callee.value (Operand.func 20), args := _, argTypes := _ }, type := _, pos := _, after := _, guard := _ } :: _) _); apply wpq_call (hc := HSM.out); (focus rfl); (focus (intro W hW; go_simp; (first | done | with_reducible rfl))); (try simp only [Act.put, List.setIfInBounds_toArray, List.set_cons_zero, List.set_cons_succ])) | (apply wpq_take; (focus rfl); (focus (intro W hW; obtain ⟨b1, d1, ⟨x0, x1, x2, x3, x4, x5, x6⟩, ⟨y0, y1, y2, y3, y4, y5, y6⟩⟩ := KS.out W hW; go_simp; (first | done | with_reducible rfl))); (try simp only [Act.put, List.setIfInBounds_toArray, List.set_cons_zero, List.set_cons_succ])))
          refine wpq_nil ?_
          intro w9 S9
          go_wp2_with fail
          go_ret
          rw [HFF.out]
          exact ⟨rfl, F2.out.trans S9⟩
      · have HFF := Lib.hid (HT.out (fun j h h2 => HR.out j h h2 (by omega)))
        have k1 : ¬ (k : Int) < (xs.length : Int) := by omega
        go_wp2_with fail
        go_ret
        rw [HFF.out]
        exact ⟨rfl, F2.out⟩
end Go.Proofs.YtkbjnlbbfapgdaaDoor

