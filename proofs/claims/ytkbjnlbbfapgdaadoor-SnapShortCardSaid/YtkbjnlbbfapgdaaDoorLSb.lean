/- ref16.Right. ledger.Right. snap.number, snap.putAccount: bytes put behind others, in a row of the call's own. snap.Encode; ref17.numbers, Bytes. The plain law of snapshots: a ledger's bytes, read back. snap's readers: a cursor as what is left of its bytes; leases, statements. snap.readStatement; snap.list of leases and of statements (written by wip/gensnape.py). snap.readAccount (written by wip/gensnapf.py). snap.readAccount, the walk (written by wip/gensnapf.py). snap.list of accounts, snap.Decode, snap.Sealed. ref17.numbers, ref17.Bytes. The plain laws of snapshots; law17.awake; the law SnapEncodes: the bytes of any ledger, which lead back to it, or that there are none. -/
import Derived.Test.YtkbjnlbbfapgdaaDoorLGk
import Derived.Test.YtkbjnlbbfapgdaaDoorLGa
import Derived.Test.YtkbjnlbbfapgdaaDoorAcctR
import Derived.Test.YtkbjnlbbfapgdaaDoorLSa
import Derived.Test.YtkbjnlbbfapgdaaDoorLGb
import Derived.Test.YtkbjnlbbfapgdaaDoorAcctX
import Derived.Test.YtkbjnlbbfapgdaaDoorArr2
import Derived.Deep.RegionHeld3
set_option maxRecDepth 100000
set_option linter.unusedVariables false
set_option linter.unusedSimpArgs false
namespace Go.Proofs.YtkbjnlbbfapgdaaDoor
open Go.RowKit

/-- is a ledger right? -/
def rightL (l : List Ac) : Bool := l.all rightB && riseB l && decide (l.length ≤ 8)
set_option maxHeartbeats 8000000 in
theorem rlright_calls (seq : Nat) (A : Option Addr) (c : Nat) (xs : List Ax) (w : World) (hb : RdL w A xs) (hok : ∀ x ∈ xs, x.a.ok) (hl : xs.length ≤ 100000) :
    Calls Tryd.prog 25 #[lgA seq A xs.length c] w (RetV w (.bool (rightL (acs xs)))) := by
  have HB := Lib.hid hb
  have HOK := Lib.hid hok
  have HRI : Hid (∀ W, Ext w W → Calls Tryd.prog 32 #[.agg #[.int .u64 seq, .slice A xs.length c]] W (RetV W (.bool (riseB (acs xs))))) := fun W e => rrise_calls seq A c xs W (hb.ext e) (by omega)
  have HF : Hid (∀ k (h : k < xs.length), rightB xs[k].a = false → rightL (acs xs) = false) := fun k h hf => by
    unfold rightL
    have : (acs xs).all rightB = false := List.all_eq_false.2 ⟨xs[k].a, List.mem_map_of_mem (List.getElem_mem h), by rw [hf]; decide⟩
    rw [this]; rfl
  have HT : Hid ((∀ j (h : j < xs.length), rightB xs[j].a = true) → rightL (acs xs) = (riseB (acs xs) && decide (xs.length ≤ 8))) := fun h => by
    unfold rightL
    have : (acs xs).all rightB = true := List.all_eq_true.2 fun a ha => by
      obtain ⟨x, hx, rfl⟩ := List.mem_map.1 ha
      obtain ⟨j, hj, rfl⟩ := List.mem_iff_getElem.1 hx
      exact h j hj
    rw [this, acs_len]; rfl
  clear hb hok
  generalize rightL (acs xs) = R at *
  generalize riseB (acs xs) = RB at *
  unfold lgA
  go_enter Tryd.func25, Tryd.ntmps25
  go_wp2_with (first
    | ((with_reducible show wpList _ _ _ ({ dst := some 1, op := Op.box 40 _, type := _, pos := _, after := _, guard := _ } :: _) _ _); refine bxA _ rfl 40 _ rfl _ rfl ?_; intro g1 w1 hg hs1 k1 e1; have X1 := Lib.hid k1; have E1 := Lib.hid e1; clear hg hs1 k1 e1))
  go_loopw [3] (fun i wr => ∃ k : Nat, k ≤ xs.length ∧ i = .int .i64 k ∧ Ext w1 wr ∧ (∀ j (h : j < xs.length), j < k → rightB xs[j].a = true)) (fun i _ => xs.length - (intOf i).toNat)
  case atStart => exact ⟨0, by omega, rfl, Ext.refl _, fun j h hj => by omega⟩
  case round =>
    obtain ⟨k, hk, rfl, hE, hr⟩ := hrel
    have HR := Lib.hid hr
    have E2 := Lib.hid hE
    have F2 := Lib.hid (E1.out.trans hE)
    clear hr hE
    obtain ⟨a0, a1⟩ := lg_cells (X1.out.ext E2.out)
    by_cases hlt : k < xs.length
    · have HX := Lib.hid ((HB.out.each _ (List.getElem_mem hlt)).ext F2.out)
      have OX := Lib.hid (HOK.out _ (List.getElem_mem hlt))
      obtain ⟨ad, rfl, x0, x1, x2, x3, x4, x5, x6⟩ := (HB.out.rd.ext F2.out).seven hlt
      have k1 : (k : Int) < (xs.length : Int) := by omega
      have HFk := Lib.hid (HF.out k hlt)
      have HRk : Hid (rightB xs[k].a = true → ∀ j (h : j < xs.length), j < k + 1 → rightB xs[j].a = true) := fun h j hj hjk => by
        rcases Nat.lt_or_ge j k with h2 | h2
        · exact HR.out j hj h2
        · obtain rfl : j = k := by omega
          exact h
      generalize xs[k] = x at *
      have HRC : Hid (Calls Tryd.prog 13 #[(.agg #[.string x.a.ten, .int .u64 x.a.cap, .int .u64 x.a.used, .int .u64 x.a.bits, .int .u64 x.a.per, .slice x.AL x.a.ls.length x.cL, .slice x.AC x.a.cl.length x.cC])] wr (RetV wr (.bool (rightB x.a)))) := rright_calls x.a x.AL x.AC x.cL x.cC wr HX.out.rd OX.out
      generalize rightB x.a = b at *
      cases b with
      | false =>
        have HFF := Lib.hid (HFk.out rfl)
        clear HFk HRk
        go_wp2_with (first | (go_at_call 13; refine HRC.out.mono ?_; rintro e w5 ⟨rfl, e5⟩; have F5 := Lib.hid (F2.out.trans e5); clear e5 a0 a1))
        go_ret
        rw [HFF.out]
        exact ⟨rfl, F5.out⟩
      | true =>
        have HRR := Lib.hid (HRk.out rfl)
        clear HFk HRk
        go_wp2_with (first | (go_at_call 13; refine HRC.out.mono ?_; rintro e w5 ⟨rfl, e5⟩; have E5 := Lib.hid (E2.out.trans e5); clear e5 a0 a1))
        go_roundw
        case rel => exact ⟨k + 1, by omega, by go_num, E5.out, HRR.out⟩
        case measure => simp [intOf]; omega
    · have HFF := Lib.hid (HT.out (fun j h => HR.out j h (by omega)))
      have k1 : ¬ (k : Int) < (xs.length : Int) := by omega
      cases RB with
      | false =>
        go_wp2_with (first | (go_at_call 32; refine (HRI.out _ F2.out).mono ?_; rintro e w5 ⟨rfl, e5⟩; have F5 := Lib.hid (F2.out.trans e5); clear e5 a0 a1))
        go_ret
        rw [HFF.out]
        exact ⟨rfl, F5.out⟩
      | true =>
        go_wp2_with (first | (go_at_call 32; refine (HRI.out _ F2.out).mono ?_; rintro e w5 ⟨rfl, e5⟩; have F5 := Lib.hid (F2.out.trans e5); have EE := Lib.hid (E2.out.trans e5); obtain ⟨b0, b1⟩ := lg_cells (X1.out.ext EE.out); clear e5 a0 a1))
        go_ret
        rw [HFF.out]
        refine ⟨ret_boolW ?_, F5.out⟩
        rw [Bool.eq_iff_iff]
        simp
        try omega
end Go.Proofs.YtkbjnlbbfapgdaaDoor

namespace Go.Proofs.YtkbjnlbbfapgdaaDoor
open Go.RowKit

set_option maxHeartbeats 8000000 in
theorem lgright_calls (seq : Nat) (A : Option Addr) (c : Nat) (xs : List Ax) (w : World) (hb : RdL w A xs) (hok : ∀ x ∈ xs, x.a.ok) (hl : xs.length ≤ 100000) (hL : Laid w) :
    Calls Tryd.prog 45 #[lgA seq A xs.length c] w (RetV w (.bool (rightL (acs xs)))) := by
  have HB := Lib.hid hb
  have HOK := Lib.hid hok
  have HL := Lib.hid hL
  have H8 : Hid (8 < xs.length → rightL (acs xs) = false) := fun h => by
    unfold rightL
    rw [acs_len, decide_eq_false (by omega)]
    simp
  have HF : Hid (∀ k (h : k < xs.length), rightB xs[k].a = false → rightL (acs xs) = false) := fun k h hf => by
    unfold rightL
    have : (acs xs).all rightB = false := List.all_eq_false.2 ⟨xs[k].a, List.mem_map_of_mem (List.getElem_mem h), by rw [hf]; decide⟩
    rw [this]; rfl
  have HFR : Hid (∀ m (h : m + 1 < xs.length), ¬ cB xs[m].a.nm xs[m + 1].a.nm < 0 → rightL (acs xs) = false) := fun m h hn => by
    unfold rightL
    have : riseB (acs xs) = false := by
      cases hr : riseB (acs xs) with
      | false => rfl
      | true => exact absurd (by have := (riseB_adj _).1 hr m (by simpa using h); simpa [acs] using this) hn
    rw [this]; simp
  have HT : Hid (¬ 8 < xs.length → (∀ j (h : j < xs.length), rightB xs[j].a = true) → (∀ j (h : j + 1 < xs.length), cB xs[j].a.nm xs[j + 1].a.nm < 0) → rightL (acs xs) = true) := fun h8 h h2 => by
    unfold rightL
    have e1 : (acs xs).all rightB = true := List.all_eq_true.2 fun a ha => by
      obtain ⟨x, hx, rfl⟩ := List.mem_map.1 ha
      obtain ⟨j, hj, rfl⟩ := List.mem_iff_getElem.1 hx
      exact h j hj
    have e2 : riseB (acs xs) = true := (riseB_adj _).2 (fun j hj => by have := h2 j (by simpa using hj); simpa [acs] using this)
    rw [e1, e2, acs_len, decide_eq_true (by omega)]; rfl
  clear hb hok hL
  generalize rightL (acs xs) = R at *
  unfold lgA
  go_enter Tryd.func45, Tryd.ntmps45
  by_cases h8 : 8 < xs.length
  · have HFF := Lib.hid (H8.out h8)
    have q8 : decide ((8 : Int) < (xs.length : Int)) = true := decide_eq_true (by omega)
    clear h8
    go_wp2_with (first | ((with_reducible show wpList _ _ _ ({ dst := some 1, op := Op.box 40 _, type := _, pos := _, after := _, guard := _ } :: _) _ _); refine bxA _ rfl 40 _ rfl _ rfl ?_; intro g1 w1 hg hs1 k1 e1; have X1 := Lib.hid k1; have E1 := Lib.hid e1; obtain ⟨a0, a1⟩ := lg_cells k1; clear hg hs1 k1 e1))
    go_ret
    rw [HFF.out]
    exact ⟨rfl, E1.out⟩
  have q8 : decide ((8 : Int) < (xs.length : Int)) = false := decide_eq_false (by omega)
  have HT := Lib.hid (HT.out h8)
  clear h8 H8
  go_wp2_with (first | ((with_reducible show wpList _ _ _ ({ dst := some 1, op := Op.box 40 _, type := _, pos := _, after := _, guard := _ } :: _) _ _); refine bxA _ rfl 40 _ rfl _ rfl ?_; intro g1 w1 hg hs1 k1 e1; have X1 := Lib.hid k1; have E1 := Lib.hid e1; obtain ⟨a0, a1⟩ := lg_cells k1; clear hg hs1 k1 e1))
  clear a0 a1 q8
  go_loopw [3, 12] (fun _ i wr => ∃ k : Nat, k ≤ xs.length ∧ i = .int .i64 k ∧ Ext w1 wr ∧ (∀ j (h : j < xs.length), j < k → rightB xs[j].a = true) ∧ (∀ j (h : j + 1 < xs.length), j + 1 < k → cB xs[j].a.nm xs[j + 1].a.nm < 0)) (fun _ i _ => xs.length - (intOf i).toNat)
  case atStart => exact ⟨0, by omega, rfl, Ext.refl _, fun j h hj => by omega, fun j h hj => by omega⟩
  case round =>
    obtain ⟨k, hk, rfl, hE, hr, hr2⟩ := hrel
    have HR := Lib.hid hr
    have HR2 := Lib.hid hr2
    have E2 := Lib.hid hE
    have F2 := Lib.hid (E1.out.trans hE)
    clear hr hr2 hE
    by_cases hlt : k < xs.length
    · have HX := Lib.hid ((HB.out.each _ (List.getElem_mem hlt)).ext F2.out)
      have OX := Lib.hid (HOK.out _ (List.getElem_mem hlt))
      have k1 : (k : Int) < (xs.length : Int) := by omega
      have HFk := Lib.hid (HF.out k hlt)
      obtain ⟨ad, hA, x0, x1, x2, x3, x4, x5, x6⟩ := (HB.out.rd.ext F2.out).seven hlt
      have HRK : Hid (rightB xs[k].a = true → ∀ j (h : j < xs.length), j < k + 1 → rightB xs[j].a = true) := fun h j hj hjk => by
        rcases Nat.lt_or_ge j k with h2 | h2
        · exact HR.out j hj h2
        · obtain rfl : j = k := by omega
          exact h
      by_cases hk0 : k = 0
      · subst hA
        have q0 : decide (0 < k) = false := decide_eq_false (by omega)
        have HK0 := Lib.hid hk0
        clear hk0
        generalize xs[k] = x at *
        have HRC0 : Hid (∀ W, Ext wr W → Calls Tryd.prog 18 #[(.agg #[.string x.a.ten, .int .u64 x.a.cap, .int .u64 x.a.used, .int .u64 x.a.bits, .int .u64 x.a.per, .slice x.AL x.a.ls.length x.cL, .slice x.AC x.a.cl.length x.cC])] W (RetV W (.bool (rightB x.a)))) := fun W e => aright_calls x.a x.AL x.AC x.cL x.cC W (HX.out.ext e).rd OX.out (HL.out.ext (F2.out.trans e))
        generalize rightB x.a = b at *
        go_wp2_with (first | ((with_reducible show wpList _ _ _ ({ dst := some 4, op := Op.alloc 26, type := _, pos := _, after := _, guard := _ } :: _) _ _); refine alA _ rfl 26 rfl _ _ zero_acct ?_; intro g5 w5 hg hs1 k3 e3; have X5 := Lib.hid k3; have T5 := Lib.hid e3; have G5 := Lib.hid (Nat.le_of_eq hg); clear hg hs1 k3 e3 x0 x1 x2 x3 x4 x5 x6) | ((with_reducible show wpList _ _ _ ({ dst := none, op := Op.store 26 _ _, type := _, pos := _, after := _, guard := _ } :: _) _ _); refine stA _ rfl 26 26 _ _ rfl g5 _ (acV x.a x.AL x.cL x.AC x.cC) rfl rfl X5.out size_acct rfl (ac_one _ _ _ _ _) ?_; intro w6 hs k4 g4; have T6 := Lib.hid (show Ext wr w6 from T5.out.grown g4 (fun k hk => by injection hk with hk; have := G5.out; omega)); have X6 := Lib.hid k4; obtain ⟨y0, y1, y2, y3, y4, y5, y6⟩ := ac_cells k4; obtain ⟨a0, a1⟩ := lg_cells (X1.out.ext (E2.out.trans T6.out)); clear hs k4 g4))
        have HRC : Hid (∀ W, Ext w6 W → Calls Tryd.prog 18 #[(.agg #[.string x.a.ten, .int .u64 x.a.cap, .int .u64 x.a.used, .int .u64 x.a.bits, .int .u64 x.a.per, .slice x.AL x.a.ls.length x.cL, .slice x.AC x.a.cl.length x.cC])] W (RetV W (.bool b))) := fun W e => HRC0.out W (T6.out.trans e)
        have KS : Hid (∀ W, Ext w6 W → _) := fun W e => And.intro ((X1.out.ext ((E2.out.trans T6.out).trans e)).cell 1) (And.intro True.intro (ac_cells (X6.out.ext e)))
        cases b with
        | false =>
          have HFF := Lib.hid (HFk.out rfl)
          clear HFk HRK
          refine wp_region_quietE w6 (Ext.refl _) (by kernel_rfl) (by kernel_rfl) ?_
          repeat (first | (apply wpq_skip; (focus rfl); (try simp only [Act.put, List.setIfInBounds_toArray, List.set_cons_zero, List.set_cons_succ])) | ((with_reducible show QGoal _ _ _ _ ({ dst := _, op := Op.call { callee := Callee.value (Operand.func 18), args := _, argTypes := _ }, type := _, pos := _, after := _, guard := _ } :: _) _); apply wpq_call (hc := HRC.out); (focus rfl); (focus (intro W hW; go_simp; (first | done | with_reducible rfl))); (try simp only [Act.put, List.setIfInBounds_toArray, List.set_cons_zero, List.set_cons_succ])) | (apply wpq_take; (focus rfl); (focus (intro W hW; obtain ⟨b1, p0, ⟨y0, y1, y2, y3, y4, y5, y6⟩⟩ := KS.out W hW; go_simp; (first | done | with_reducible rfl))); (try simp only [Act.put, List.setIfInBounds_toArray, List.set_cons_zero, List.set_cons_succ])))
          refine wpq_nil ?_
          intro w9 S9
          go_wp2_with fail
          go_ret
          rw [HFF.out]
          exact ⟨rfl, (F2.out.trans T6.out).trans S9⟩
        | true =>
          have HRR := Lib.hid (HRK.out rfl)
          clear HFk HRK
          refine wp_region_quietE w6 (Ext.refl _) (by kernel_rfl) (by kernel_rfl) ?_
          repeat (first | (apply wpq_skip; (focus rfl); (try simp only [Act.put, List.setIfInBounds_toArray, List.set_cons_zero, List.set_cons_succ])) | ((with_reducible show QGoal _ _ _ _ ({ dst := _, op := Op.call { callee := Callee.value (Operand.func 18), args := _, argTypes := _ }, type := _, pos := _, after := _, guard := _ } :: _) _); apply wpq_call (hc := HRC.out); (focus rfl); (focus (intro W hW; go_simp; (first | done | with_reducible rfl))); (try simp only [Act.put, List.setIfInBounds_toArray, List.set_cons_zero, List.set_cons_succ])) | (apply wpq_take; (focus rfl); (focus (intro W hW; obtain ⟨b1, p0, ⟨y0, y1, y2, y3, y4, y5, y6⟩⟩ := KS.out W hW; go_simp; (first | done | with_reducible rfl))); (try simp only [Act.put, List.setIfInBounds_toArray, List.set_cons_zero, List.set_cons_succ])))
          refine wpq_nil ?_
          intro w9 S9
          go_wp2_with fail
          go_roundw
          case rel => exact ⟨k + 1, by omega, by go_num, (E2.out.trans T6.out).trans S9, HRR.out, fun j h hj => by have := HK0.out; omega⟩
          case measure => simp [intOf]; omega
      · obtain ⟨m, hkm⟩ : ∃ m, k = m + 1 := ⟨k - 1, by omega⟩
        have hm0 : m < xs.length := by omega
        have HFm : Hid (¬ cB xs[m].a.nm xs[k].a.nm < 0 → R = false) := by
          subst hkm
          exact Lib.hid (fun h => HFR.out m hlt (by omega))
        have HRM : Hid (cB xs[m].a.nm xs[k].a.nm < 0 → ∀ j (h : j + 1 < xs.length), j + 1 < k + 1 → cB xs[j].a.nm xs[j + 1].a.nm < 0) := fun h j hj hjm => by
          subst hkm
          rcases Nat.lt_or_ge (j + 1) (m + 1) with h2 | h2
          · exact HR2.out j hj h2
          · obtain rfl : j = m := by omega
            exact h
        have u1 : IntKind.i64.wrap ((k : Int) - 1) = (m : Int) := by rw [IntWalk.i64_in _ (by omega)]; omega
        have k2 : (m : Int) < (xs.length : Int) := by omega
        have HLQ := Lib.hid (less_cB xs[m].a.ten.data.toList xs[k].a.ten.data.toList)
        have HV : Hid (cB xs[m].a.nm xs[k].a.nm = cB xs[m].a.ten.data.toList xs[k].a.ten.data.toList) := rfl
        obtain ⟨ad2, hA2, hpc⟩ := (⟨HB.out.rd.ext F2.out, fun x hx => (HB.out.each x hx).ext F2.out⟩ : RdL wr A xs).cells_at hm0
        subst hA
        injection hA2 with hA2
        subst hA2
        have HPC := Lib.hid hpc
        clear hpc
        generalize cB xs[m].a.nm xs[k].a.nm = v at *
        rw [← HV.out] at HLQ
        rw [← ByteArray.toList_eq, ← ByteArray.toList_eq] at HLQ
        generalize xs[k] = x at *
        generalize xs[m] = y at *
        have HRC0 : Hid (∀ W, Ext wr W → Calls Tryd.prog 18 #[(.agg #[.string x.a.ten, .int .u64 x.a.cap, .int .u64 x.a.used, .int .u64 x.a.bits, .int .u64 x.a.per, .slice x.AL x.a.ls.length x.cL, .slice x.AC x.a.cl.length x.cC])] W (RetV W (.bool (rightB x.a)))) := fun W e => aright_calls x.a x.AL x.AC x.cL x.cC W (HX.out.ext e).rd OX.out (HL.out.ext (F2.out.trans e))
        generalize rightB x.a = b at *
        have q0 : decide (0 < k) = true := decide_eq_true (by omega)
        clear hkm hk0
        go_wp2_with (first | ((with_reducible show wpList _ _ _ ({ dst := some 4, op := Op.alloc 26, type := _, pos := _, after := _, guard := _ } :: _) _ _); refine alA _ rfl 26 rfl _ _ zero_acct ?_; intro g5 w5 hg hs1 k3 e3; have X5 := Lib.hid k3; have T5 := Lib.hid e3; have G5 := Lib.hid (Nat.le_of_eq hg); clear hg hs1 k3 e3 x0 x1 x2 x3 x4 x5 x6) | ((with_reducible show wpList _ _ _ ({ dst := none, op := Op.store 26 _ _, type := _, pos := _, after := _, guard := _ } :: _) _ _); refine stA _ rfl 26 26 _ _ rfl g5 _ (acV x.a x.AL x.cL x.AC x.cC) rfl rfl X5.out size_acct rfl (ac_one _ _ _ _ _) ?_; intro w6 hs k4 g4; have T6 := Lib.hid (show Ext wr w6 from T5.out.grown g4 (fun k hk => by injection hk with hk; have := G5.out; omega)); have X6 := Lib.hid k4; obtain ⟨y0, y1, y2, y3, y4, y5, y6⟩ := ac_cells k4; obtain ⟨a0, a1⟩ := lg_cells (X1.out.ext (E2.out.trans T6.out)); clear hs k4 g4))
        have HRC : Hid (∀ W, Ext w6 W → Calls Tryd.prog 18 #[(.agg #[.string x.a.ten, .int .u64 x.a.cap, .int .u64 x.a.used, .int .u64 x.a.bits, .int .u64 x.a.per, .slice x.AL x.a.ls.length x.cL, .slice x.AC x.a.cl.length x.cC])] W (RetV W (.bool b))) := fun W e => HRC0.out W (T6.out.trans e)
        have KS : Hid (∀ W, Ext w6 W → _) := fun W e => And.intro ((X1.out.ext ((E2.out.trans T6.out).trans e)).cell 1) (And.intro (HPC.out W (T6.out.trans e)).1 (ac_cells (X6.out.ext e)))
        by_cases hv : v < 0
        · have q : Op.bytesLess y.a.ten.toList x.a.ten.toList = true := by rw [HLQ.out]; exact decide_eq_true hv
          have HRM2 := Lib.hid (HRM.out hv)
          clear HFm HRM HLQ HV hv
          cases b with
          | false =>
            have HFF := Lib.hid (HFk.out rfl)
            clear HFk HRK
            refine wp_region_quietE w6 (Ext.refl _) (by kernel_rfl) (by kernel_rfl) ?_
            repeat (first | (apply wpq_skip; (focus rfl); (try simp only [Act.put, List.setIfInBounds_toArray, List.set_cons_zero, List.set_cons_succ])) | ((with_reducible show QGoal _ _ _ _ ({ dst := _, op := Op.call { callee := Callee.value (Operand.func 18), args := _, argTypes := _ }, type := _, pos := _, after := _, guard := _ } :: _) _); apply wpq_call (hc := HRC.out); (focus rfl); (focus (intro W hW; go_simp; (first | done | with_reducible rfl))); (try simp only [Act.put, List.setIfInBounds_toArray, List.set_cons_zero, List.set_cons_succ])) | (apply wpq_take; (focus rfl); (focus (intro W hW; obtain ⟨b1, p0, ⟨y0, y1, y2, y3, y4, y5, y6⟩⟩ := KS.out W hW; go_simp; (first | done | with_reducible rfl))); (try simp only [Act.put, List.setIfInBounds_toArray, List.set_cons_zero, List.set_cons_succ])))
            refine wpq_nil ?_
            intro w9 S9
            go_wp2_with fail
            go_ret
            rw [HFF.out]
            exact ⟨rfl, (F2.out.trans T6.out).trans S9⟩
          | true =>
            have HRR := Lib.hid (HRK.out rfl)
            clear HFk HRK
            refine wp_region_quietE w6 (Ext.refl _) (by kernel_rfl) (by kernel_rfl) ?_
            repeat (first | (apply wpq_skip; (focus rfl); (try simp only [Act.put, List.setIfInBounds_toArray, List.set_cons_zero, List.set_cons_succ])) | ((with_reducible show QGoal _ _ _ _ ({ dst := _, op := Op.call { callee := Callee.value (Operand.func 18), args := _, argTypes := _ }, type := _, pos := _, after := _, guard := _ } :: _) _); apply wpq_call (hc := HRC.out); (focus rfl); (focus (intro W hW; go_simp; (first | done | with_reducible rfl))); (try simp only [Act.put, List.setIfInBounds_toArray, List.set_cons_zero, List.set_cons_succ])) | (apply wpq_take; (focus rfl); (focus (intro W hW; obtain ⟨b1, p0, ⟨y0, y1, y2, y3, y4, y5, y6⟩⟩ := KS.out W hW; go_simp; (first | done | with_reducible rfl))); (try simp only [Act.put, List.setIfInBounds_toArray, List.set_cons_zero, List.set_cons_succ])))
            refine wpq_nil ?_
            intro w9 S9
            go_wp2_with fail
            go_roundw
            case rel => exact ⟨k + 1, by omega, by go_num, (E2.out.trans T6.out).trans S9, HRR.out, HRM2.out⟩
            case measure => simp [intOf]; omega
        · have q : Op.bytesLess y.a.ten.toList x.a.ten.toList = false := by rw [HLQ.out]; exact decide_eq_false hv
          have HFF := Lib.hid (HFm.out (by omega))
          clear HFm HRM HLQ HV HFk HRK hv
          refine wp_region_quietE w6 (Ext.refl _) (by kernel_rfl) (by kernel_rfl) ?_
          repeat (first | (apply wpq_skip; (focus rfl); (try simp only [Act.put, List.setIfInBounds_toArray, List.set_cons_zero, List.set_cons_succ])) | ((with_reducible show QGoal _ _ _ _ ({ dst := _, op := Op.call { callee := Callee.value (Operand.func 18), args := _, argTypes := _ }, type := _, pos := _, after := _, guard := _ } :: _) _); apply wpq_call (hc := HRC.out); (focus rfl); (focus (intro W hW; go_simp; (first | done | with_reducible rfl))); (try simp only [Act.put, List.setIfInBounds_toArray, List.set_cons_zero, List.set_cons_succ])) | (apply wpq_take; (focus rfl); (focus (intro W hW; obtain ⟨b1, p0, ⟨y0, y1, y2, y3, y4, y5, y6⟩⟩ := KS.out W hW; go_simp; (first | done | with_reducible rfl))); (try simp only [Act.put, List.setIfInBounds_toArray, List.set_cons_zero, List.set_cons_succ])))
          refine wpq_nil ?_
          intro w9 S9
          go_wp2_with fail
          go_ret
          rw [HFF.out]
          exact ⟨rfl, (F2.out.trans T6.out).trans S9⟩
    · have HFF := Lib.hid (HT.out (fun j h => HR.out j h (by omega)) (fun j h => HR2.out j h (by omega)))
      have k1 : ¬ (k : Int) < (xs.length : Int) := by omega
      go_wp2_with fail
      go_ret
      rw [HFF.out]
      exact ⟨rfl, F2.out⟩
end Go.Proofs.YtkbjnlbbfapgdaaDoor

namespace Go.Proofs.YtkbjnlbbfapgdaaDoor
open Go.RowKit

theorem OwnB.offT {w : World} {base g c : Nat} {A : Option Addr} {bs : List UInt8} {t : TypeId} {cs : Array Value} (h : OwnB w base A c bs) (H : Arr w g t cs) (ht : t ≠ 5) : Off A g := fun k hk he => by
  subst he
  rcases h.2 with ⟨hv, _⟩ | ⟨g', cap, cur, hv, hb, hh, _⟩
  · injection hv with hA _ _
    rw [hA] at hk; cases hk
  · injection hv with hA _ _
    rw [hA] at hk
    injection hk with hk
    unfold Arr at H
    subst hk
    have h2 := hh.symm.trans H
    injection h2 with h2
    injection h2 with _ h3 _
    exact ht h3.symm
/-- blocks of another kind stay, and all below a base -/
def KP (base : Nat) (w w' : World) : Prop := (∀ g t cs, t ≠ 5 → Arr w g t cs → Arr w' g t cs) ∧ w.heap.size ≤ w'.heap.size ∧ (∀ w0, Ext w0 w → w0.heap.size ≤ base → Ext w0 w')
theorem KP.refl (base : Nat) (w : World) : KP base w w := ⟨fun _ _ _ _ h => h, Nat.le_refl _, fun _ h _ => h⟩
theorem KP.trans {base : Nat} {w w1 w2 : World} (h : KP base w w1) (k : KP base w1 w2) : KP base w w2 :=
  ⟨fun g t cs ht H => k.1 g t cs ht (h.1 g t cs ht H), Nat.le_trans h.2.1 k.2.1, fun w0 e hb => k.2.2 w0 (h.2.2 w0 e hb) hb⟩
theorem KP.ext {base : Nat} {w w1 : World} (h : Ext w w1) : KP base w w1 := ⟨fun _ _ _ _ H => H.ext h, h.size, fun _ e _ => e.trans h⟩
theorem KP.own {base c : Nat} {w w1 : World} {A : Option Addr} {bs : List UInt8} (O : OwnB w base A c bs) (g : w.grownBy w1 (blk A)) : KP base w w1 :=
  ⟨fun _ _ _ ht H => H.off g (O.offT H ht), g.size, fun _ e hb => e.grown g (fun k hk => by have := (O.base_ k hk).1; omega)⟩
/-- bytes put behind those of the call's own -/
def RetP (w : World) (base : Nat) (bs : List UInt8) (e : Ending) (w' : World) : Prop := ∃ A' c', e = .returned (.slice A' bs.length c') ∧ OwnB w' base A' c' bs ∧ KP base w w'

set_option maxHeartbeats 2000000 in
theorem snum_calls (base : Nat) (A : Option Addr) (c : Nat) (bs : List UInt8) (width : Int) (n : Nat) (w : World) (O : OwnB w base A c bs) (hb : base ≤ w.heap.size) (hl : bs.length ≤ 1000000) (hw : okW width = true) (hn : n < 18446744073709551616) :
    Calls Tryd.prog 69 #[.slice A bs.length c, .int .i64 width, .int .u64 n] w (RetP w base (bs ++ leB width.toNat n)) := by
  have HO := Lib.hid O
  have HB := Lib.hid hb
  have hw8 : width.toNat ≤ 8 := by have := (okW_iff width).1 hw; omega
  have HP : Hid (∀ W, Calls Tryd.prog 108 #[.slice none 0 0, .int .i64 width, .int .u64 n] W (RetB W (leB width.toNat n))) := fun W => by
    have h := put_calls none 0 [] width n W RdB.nil (by simp) hn
    have hp : putW [] width n = leB width.toNat n := by simp [putW, hw]
    rw [hp] at h
    exact h
  have hll := leB_length width.toNat n
  have HLL := Lib.hid hll
  clear O hb hw hll
  generalize leB width.toNat n = x at *
  go_enter Tryd.func69, Tryd.ntmps69
  go_wp2_with (first
    | (go_at_call 108; refine (HP.out _).mono ?_; rintro e w2 ⟨B, d, rfl, o2, e2⟩; have O2 := Lib.hid o2; have E2 := Lib.hid e2; clear o2 e2)
    | (at_builtin; refine appB _ rfl (.tmp 7) (.tmp 10) rfl base A c bs rfl B d x rfl ?_ (HO.out.ext E2.out) O2.out.rd (by have := HLL.out; omega) (by have := HB.out; have := E2.out.size; omega); intro A' c' w' h1 h2 h3; have H1 := Lib.hid h1; have H2 := Lib.hid h2; clear h1 h2 h3))
  go_ret
  exact ⟨A', c', (by rw [List.length_append]; rfl), H1.out, (KP.ext E2.out).trans (KP.own (HO.out.ext E2.out) H2.out)⟩

/-- an account's bytes -/
def encLz (l : Lz) : List UInt8 := leB 8 l.id ++ leB 8 l.sz
def encSt (s : St) : List UInt8 := leB 8 s.used ++ leB 8 s.cap ++ leB 8 s.bits
def encLs (ls : List Lz) : List UInt8 := ls.flatMap encLz
def encCl (cl : List St) : List UInt8 := cl.flatMap encSt
def encA (a : Ac) : List UInt8 := leB 1 a.ten.size ++ a.ten.data.toList ++ leB 8 a.cap ++ leB 8 a.used ++ leB 8 a.bits ++ leB 2 a.ls.length ++ encLs a.ls ++ leB 4 a.cl.length ++ encCl a.cl
theorem encLz_len (l : Lz) : (encLz l).length = 16 := by simp [encLz, leB_length]
theorem encSt_len (s : St) : (encSt s).length = 24 := by simp [encSt, leB_length]
theorem flatB_len {α : Type} {f : α → List UInt8} {k : Nat} (hk : ∀ x, (f x).length = k) (xs : List α) : (xs.flatMap f).length = xs.length * k := by
  induction xs with
  | nil => simp
  | cons a l ih => rw [List.flatMap_cons, List.length_append, ih, hk, List.length_cons, Nat.succ_mul]; omega
theorem encLs_len (ls : List Lz) : (encLs ls).length = ls.length * 16 := flatB_len encLz_len ls
theorem encCl_len (cl : List St) : (encCl cl).length = cl.length * 24 := flatB_len encSt_len cl
theorem encA_len (a : Ac) : (encA a).length = 31 + a.ten.size + 16 * a.ls.length + 24 * a.cl.length := by
  have : a.ten.data.toList.length = a.ten.size := rfl
  simp only [encA, List.length_append, leB_length, encLs_len, encCl_len, this]; omega
theorem encLs_snoc (ls : List Lz) (l : Lz) : encLs (ls ++ [l]) = encLs ls ++ (leB 8 l.id ++ leB 8 l.sz) := by simp [encLs, encLz]
theorem encCl_snoc (cl : List St) (s : St) : encCl (cl ++ [s]) = encCl cl ++ (leB 8 s.used ++ leB 8 s.cap ++ leB 8 s.bits) := by simp [encCl, encSt]

set_option maxHeartbeats 8000000 in
theorem sput_calls (w0 : World) (base : Nat) (A : Option Addr) (c : Nat) (bs : List UInt8) (a : Ac) (AL AC : Option Addr) (cL cC : Nat) (w : World) (E0 : Ext w0 w) (hw0 : w0.heap.size ≤ base) (O : OwnB w base A c bs) (hb : base ≤ w.heap.size) (ha : RdA w0 a AL AC) (hok : a.ok) (hl : bs.length ≤ 400000) (h1 : a.ls.length ≤ 1000) (h2 : a.cl.length ≤ 1000) (h3 : a.ten.size ≤ 1000) :
    Calls Tryd.prog 70 #[.slice A bs.length c, acA a AL cL AC cC] w (RetP w base (bs ++ encA a)) := by
  have HA := Lib.hid ha
  have HE0 := Lib.hid E0
  have HW0 := Lib.hid hw0
  have HO := Lib.hid O
  have HB := Lib.hid hb
  have HOK := Lib.hid hok
  have b1 := hok.2.1
  have b2 := hok.2.2.1
  have b3 := hok.2.2.2.1
  have HL := Lib.hid hl
  have u1 : IntKind.u64.wrap (a.ten.size : Int) = (a.ten.size : Int) := IntWalk.u64_in _ (by omega)
  have u2 : IntKind.u64.wrap (a.ls.length : Int) = (a.ls.length : Int) := IntWalk.u64_in _ (by omega)
  have u3 : IntKind.u64.wrap (a.cl.length : Int) = (a.cl.length : Int) := IntWalk.u64_in _ (by omega)
  clear E0 hw0 O hb ha hok hl
  unfold acA
  go_enter Tryd.func70, Tryd.ntmps70
  go_wp2_with (first | ((with_reducible show wpList _ _ _ ({ dst := some 3, op := Op.box 26 _, type := _, pos := _, after := _, guard := _ } :: _) _ _); refine bxA _ rfl 26 _ rfl _ rfl ?_; intro g3 w1 hg hs1 k1 e1; have X1 := Lib.hid k1; have E1 := Lib.hid e1; obtain ⟨x0, x1, x2, x3, x4, x5, x6⟩ := ac_cells k1; clear hg hs1 k1 e1))
  obtain ⟨A1, hA1⟩ : ∃ A1, A1 = A := ⟨_, rfl⟩
  obtain ⟨c1, hc1⟩ : ∃ c1, c1 = c := ⟨_, rfl⟩
  obtain ⟨y1, hy1⟩ : ∃ y1, y1 = bs := ⟨_, rfl⟩
  subst hA1 hc1 hy1
  have O1 := Lib.hid (HO.out.ext E1.out)
  have K1 := Lib.hid (KP.refl base w1)
  have B1 : Hid (base ≤ w1.heap.size) := Nat.le_trans HB.out E1.out.size
  have L1 : Hid (y1.length ≤ 400000) := HL.out
  go_wp2_with fail
  refine (snum_calls base A1 c1 y1 1 a.ten.size _ O1.out B1.out (by have := L1.out; omega) rfl (by omega)).mono ?_
  rintro e w2 ⟨A2, c2, rfl, o, q⟩
  have L2 : Hid ((y1 ++ leB (1 : Int).toNat (a.ten.size)).length ≤ y1.length + 8) := by show _ ≤ _; rw [List.length_append, leB_length]; simp only [show ((1 : Int).toNat) = 1 from rfl]; omega
  replace L2 := Lib.hid (Nat.le_trans L2.out (Nat.add_le_add_right L1.out 8))
  have K2 := Lib.hid (K1.out.trans q)
  have B2 : Hid (base ≤ w2.heap.size) := Nat.le_trans B1.out q.2.1
  have O2 := Lib.hid o
  generalize hy : y1 ++ leB (1 : Int).toNat (a.ten.size) = y2 at *
  have Y2 := Lib.hid hy.symm
  clear o q hy x0 x1 x2 x3 x4 x5 x6
  obtain ⟨x0, x1, x2, x3, x4, x5, x6⟩ := ac_cells (K2.out.1 _ _ _ (by decide) X1.out)
  go_upto_region 3 with (first | (at_builtin; refine appS _ rfl (.tmp 15) (.tmp 17) rfl base A2 c2 y2 rfl a.ten rfl ?_ O2.out (by have := L2.out; omega) B2.out; intro A3 c3 w3 h1 h2; obtain ⟨y3, hy3⟩ : ∃ y3, y3 = y2 ++ a.ten.data.toList := ⟨_, rfl⟩; rw [← hy3]; rw [← hy3] at h1; have Y3 := Lib.hid hy3; clear hy3; have O3 := Lib.hid h1; have K3 := Lib.hid (K2.out.trans (KP.own O2.out h2)); have B3 : Hid (base ≤ w3.heap.size) := Nat.le_trans B2.out h2.size; clear h1 h2))
  have L3 : Hid (y3.length ≤ 402000) := by show _ ≤ _; have := L2.out; rw [Y3.out, List.length_append]; have : a.ten.data.toList.length = a.ten.size := rfl; omega
  clear x0 x1 x2 x3 x4 x5 x6
  obtain ⟨x0, x1, x2, x3, x4, x5, x6⟩ := ac_cells (K3.out.1 _ _ _ (by decide) X1.out)
  go_wp2_with fail
  refine (snum_calls base A3 c3 y3 8 a.cap _ O3.out B3.out (by have := L3.out; omega) rfl (by omega)).mono ?_
  rintro e w4 ⟨A4, c4, rfl, o, q⟩
  have L4 : Hid ((y3 ++ leB (8 : Int).toNat (a.cap)).length ≤ y3.length + 8) := by show _ ≤ _; rw [List.length_append, leB_length]; simp only [show ((8 : Int).toNat) = 8 from rfl]; omega
  replace L4 := Lib.hid (Nat.le_trans L4.out (Nat.add_le_add_right L3.out 8))
  have K4 := Lib.hid (K3.out.trans q)
  have B4 : Hid (base ≤ w4.heap.size) := Nat.le_trans B3.out q.2.1
  have O4 := Lib.hid o
  generalize hy : y3 ++ leB (8 : Int).toNat (a.cap) = y4 at *
  have Y4 := Lib.hid hy.symm
  clear o q hy x0 x1 x2 x3 x4 x5 x6
  obtain ⟨x0, x1, x2, x3, x4, x5, x6⟩ := ac_cells (K4.out.1 _ _ _ (by decide) X1.out)
  go_wp2_with fail
  refine (snum_calls base A4 c4 y4 8 a.used _ O4.out B4.out (by have := L4.out; omega) rfl (by omega)).mono ?_
  rintro e w5 ⟨A5, c5, rfl, o, q⟩
  have L5 : Hid ((y4 ++ leB (8 : Int).toNat (a.used)).length ≤ y4.length + 8) := by show _ ≤ _; rw [List.length_append, leB_length]; simp only [show ((8 : Int).toNat) = 8 from rfl]; omega
  replace L5 := Lib.hid (Nat.le_trans L5.out (Nat.add_le_add_right L4.out 8))
  have K5 := Lib.hid (K4.out.trans q)
  have B5 : Hid (base ≤ w5.heap.size) := Nat.le_trans B4.out q.2.1
  have O5 := Lib.hid o
  generalize hy : y4 ++ leB (8 : Int).toNat (a.used) = y5 at *
  have Y5 := Lib.hid hy.symm
  clear o q hy x0 x1 x2 x3 x4 x5 x6
  obtain ⟨x0, x1, x2, x3, x4, x5, x6⟩ := ac_cells (K5.out.1 _ _ _ (by decide) X1.out)
  go_wp2_with fail
  refine (snum_calls base A5 c5 y5 8 a.bits _ O5.out B5.out (by have := L5.out; omega) rfl (by omega)).mono ?_
  rintro e w6 ⟨A6, c6, rfl, o, q⟩
  have L6 : Hid ((y5 ++ leB (8 : Int).toNat (a.bits)).length ≤ y5.length + 8) := by show _ ≤ _; rw [List.length_append, leB_length]; simp only [show ((8 : Int).toNat) = 8 from rfl]; omega
  replace L6 := Lib.hid (Nat.le_trans L6.out (Nat.add_le_add_right L5.out 8))
  have K6 := Lib.hid (K5.out.trans q)
  have B6 : Hid (base ≤ w6.heap.size) := Nat.le_trans B5.out q.2.1
  have O6 := Lib.hid o
  generalize hy : y5 ++ leB (8 : Int).toNat (a.bits) = y6 at *
  have Y6 := Lib.hid hy.symm
  clear o q hy x0 x1 x2 x3 x4 x5 x6
  obtain ⟨x0, x1, x2, x3, x4, x5, x6⟩ := ac_cells (K6.out.1 _ _ _ (by decide) X1.out)
  go_wp2_with fail
  refine (snum_calls base A6 c6 y6 2 a.ls.length _ O6.out B6.out (by have := L6.out; omega) rfl (by omega)).mono ?_
  rintro e w7 ⟨A7, c7, rfl, o, q⟩
  have L7 : Hid ((y6 ++ leB (2 : Int).toNat (a.ls.length)).length ≤ y6.length + 8) := by show _ ≤ _; rw [List.length_append, leB_length]; simp only [show ((2 : Int).toNat) = 2 from rfl]; omega
  replace L7 := Lib.hid (Nat.le_trans L7.out (Nat.add_le_add_right L6.out 8))
  have K7 := Lib.hid (K6.out.trans q)
  have B7 : Hid (base ≤ w7.heap.size) := Nat.le_trans B6.out q.2.1
  have O7 := Lib.hid o
  generalize hy : y6 ++ leB (2 : Int).toNat (a.ls.length) = y7 at *
  have Y7 := Lib.hid hy.symm
  clear o q hy x0 x1 x2 x3 x4 x5 x6
  obtain ⟨x0, x1, x2, x3, x4, x5, x6⟩ := ac_cells (K7.out.1 _ _ _ (by decide) X1.out)
  go_wp2_with fail
  clear x0 x1 x2 x3 x4 x5 x6
  have HLS := Lib.hid (HA.out.1.ext HE0.out)
  go_loopw [0, 40] (fun b i wr => ∃ k : Nat, ∃ A' c' ys, k ≤ a.ls.length ∧ i = .int .i64 k ∧ b = .slice A' (List.length ys) c' ∧ ys = y7 ++ encLs (a.ls.take k) ∧ OwnB wr base A' c' ys ∧ base ≤ wr.heap.size ∧ KP base w1 wr) (fun _ i _ => a.ls.length - (intOf i).toNat)
  case atStart => exact ⟨0, A7, c7, y7, by omega, rfl, rfl, by simp [encLs], O7.out, B7.out, K7.out⟩
  case round =>
    obtain ⟨k, A', c', ys, hk, rfl, rfl, hys, ho, hbs, hkp⟩ := hrel
    have HYS := Lib.hid hys
    have OB := Lib.hid ho
    have BB := Lib.hid hbs
    have KK := Lib.hid hkp
    clear hys ho hbs hkp
    have hyl : ys.length ≤ 450000 := by rw [HYS.out, List.length_append, encLs_len, List.length_take]; have := L7.out; omega
    by_cases hlt : k < a.ls.length
    · have k1 : (k : Int) < (a.ls.length : Int) := by omega
      obtain ⟨ad, hAL, z0, z1⟩ := (HA.out.1.ext (KK.out.2.2 w0 (HE0.out.trans E1.out) HW0.out)).two hlt
      have hz := HOK.out.2.2.2.2.2.1 _ (List.getElem_mem hlt)
      have HTK : Hid (encLs (a.ls.take (k + 1)) = encLs (a.ls.take k) ++ (leB 8 a.ls[k].id ++ leB 8 a.ls[k].sz)) := by show _ = _; rw [List.take_succ_eq_append_getElem hlt, encLs_snoc]
      generalize a.ls[k] = z at *
      subst hAL
      have hz1 := hz.1
      have hz2 := hz.2
      go_wp2_with (first
        | ((with_reducible show wpList _ _ _ ({ dst := some 6, op := Op.alloc 64, type := _, pos := _, after := _, guard := _ } :: _) _ _); refine alA _ rfl 64 rfl _ _ zero_lease ?_; intro g6 wa hg hs1 k3 e3; have Z6 := Lib.hid k3; have T6 := Lib.hid e3; have G6 := Lib.hid (Nat.le_of_eq hg); clear hg hs1 k3 e3 z0 z1)
        | ((with_reducible show wpList _ _ _ ({ dst := none, op := Op.store 64 _ _, type := _, pos := _, after := _, guard := _ } :: _) _ _); refine stA _ rfl 64 64 _ _ rfl g6 _ (lzV z) rfl rfl Z6.out size_lease rfl (lzV_one _) ?_; intro wb hs k4 q4; have Z7 := Lib.hid k4; have T7 := Lib.hid (T6.out.grown q4 (fun q hq => by injection hq with hq; have := G6.out; omega)); obtain ⟨z0, z1⟩ := lz_cells k4; clear hs k4 q4))
      have P0 := Lib.hid (KP.ext (base := base) T7.out)
      have D0 := Lib.hid (OB.out.ext T7.out)
      have S0 : Hid (base ≤ wb.heap.size) := Nat.le_trans BB.out P0.out.2.1
      obtain ⟨v0, hv0⟩ : ∃ v0, v0 = ys := ⟨_, rfl⟩
      have HV0 : Hid (v0 = ys) := hv0
      have M0 : Hid (v0.length ≤ 450000) := by show _ ≤ _; rw [hv0]; exact hyl
      obtain ⟨F0, hF0⟩ : ∃ F0, F0 = A' := ⟨_, rfl⟩
      obtain ⟨f0, hf0⟩ : ∃ f0, f0 = c' := ⟨_, rfl⟩
      rw [← hv0, ← hF0, ← hf0] at D0
      rw [← hv0, ← hF0, ← hf0]
      clear hv0 hF0 hf0
      refine (snum_calls base F0 f0 v0 8 (z.id) _ D0.out S0.out (by have := M0.out; omega) rfl hz1).mono ?_
      rintro e x1 ⟨F1, f1, rfl, o, q⟩
      have M1 : Hid ((v0 ++ leB (8 : Int).toNat (z.id)).length ≤ 450000 + 8 * 1) := by show _ ≤ _; rw [List.length_append, leB_length]; simp only [show ((8 : Int).toNat) = 8 from rfl]; have := M0.out; omega
      have P1 := Lib.hid (P0.out.trans q)
      have S1 : Hid (base ≤ x1.heap.size) := Nat.le_trans S0.out q.2.1
      have W1 := Lib.hid (show Arr x1 g6 64 (lzV z) from q.1 _ _ _ (by decide) Z7.out)
      have D1 := Lib.hid o
      generalize hy : v0 ++ leB (8 : Int).toNat (z.id) = v1 at *
      have HV1 : Hid (v0 ++ leB 8 (z.id) = v1) := hy
      clear o q hy z0 z1
      obtain ⟨z0, z1⟩ := lz_cells W1.out
      go_wp2_with fail
      refine (snum_calls base F1 f1 v1 8 (z.sz) _ D1.out S1.out (by have := M1.out; omega) rfl hz2).mono ?_
      rintro e x2 ⟨F2, f2, rfl, o, q⟩
      have M2 : Hid ((v1 ++ leB (8 : Int).toNat (z.sz)).length ≤ 450000 + 8 * 2) := by show _ ≤ _; rw [List.length_append, leB_length]; simp only [show ((8 : Int).toNat) = 8 from rfl]; have := M1.out; omega
      have P2 := Lib.hid (P1.out.trans q)
      have S2 : Hid (base ≤ x2.heap.size) := Nat.le_trans S1.out q.2.1
      have W2 := Lib.hid (show Arr x2 g6 64 (lzV z) from q.1 _ _ _ (by decide) W1.out)
      have D2 := Lib.hid o
      generalize hy : v1 ++ leB (8 : Int).toNat (z.sz) = v2 at *
      have HV2 : Hid (v1 ++ leB 8 (z.sz) = v2) := hy
      clear o q hy z0 z1
      obtain ⟨z0, z1⟩ := lz_cells W2.out
      go_wp2_with fail
      go_roundw
      case rel => exact ⟨k + 1, F2, f2, v2, by omega, by go_num, rfl, by rw [← HV2.out, ← HV1.out, HV0.out, HYS.out, HTK.out]; simp, D2.out, S2.out, KK.out.trans P2.out⟩
      case measure => simp [intOf]; omega
    · have k1 : ¬ (k : Int) < (a.ls.length : Int) := by omega
      obtain rfl : k = a.ls.length := by omega
      rw [List.take_of_length_le (Nat.le_refl _)] at HYS
      obtain ⟨x0, x1, x2, x3, x4, x5, x6⟩ := ac_cells (KK.out.1 _ _ _ (by decide) X1.out)
      go_wp2_with fail
      refine (snum_calls base A' c' ys 4 a.cl.length _ OB.out BB.out (by omega) rfl (by omega)).mono ?_
      rintro e w8 ⟨A8, c8, rfl, o, q⟩
      have K8 := Lib.hid (KK.out.trans q)
      have B8 : Hid (base ≤ w8.heap.size) := Nat.le_trans BB.out q.2.1
      have L8 : Hid ((ys ++ leB (4 : Int).toNat a.cl.length).length ≤ 450010) := by show _ ≤ _; rw [List.length_append, leB_length]; simp only [show ((4 : Int).toNat) = 4 from rfl]; omega
      have O8 := Lib.hid o
      generalize hy : ys ++ leB (4 : Int).toNat a.cl.length = y8 at *
      have Y8 : Hid (ys ++ leB 4 a.cl.length = y8) := hy
      clear o q hy x0 x1 x2 x3 x4 x5 x6
      obtain ⟨x0, x1, x2, x3, x4, x5, x6⟩ := ac_cells (K8.out.1 _ _ _ (by decide) X1.out)
      go_wp2_with fail
      clear x0 x1 x2 x3 x4 x5 x6
      obtain ⟨wq, hwq⟩ : ∃ wq, wq = w8 := ⟨_, rfl⟩
      go_loopw [0, 62] (fun b i wr => ∃ k : Nat, ∃ A' c' zs, k ≤ a.cl.length ∧ i = .int .i64 k ∧ b = .slice A' (List.length zs) c' ∧ zs = y8 ++ encCl (a.cl.take k) ∧ OwnB wr base A' c' zs ∧ base ≤ wr.heap.size ∧ KP base w1 wr) (fun _ i _ => a.cl.length - (intOf i).toNat)
      case atStart => exact ⟨0, A8, c8, y8, by omega, rfl, rfl, by simp [encCl], O8.out, B8.out, K8.out⟩
      case round =>
        obtain ⟨k, A', c', ys, hk, rfl, rfl, hys, ho, hbs, hkp⟩ := hrel
        have HYT := Lib.hid hys
        have OB := Lib.hid ho
        have BB := Lib.hid hbs
        have KK := Lib.hid hkp
        clear hys ho hbs hkp
        have hyl : ys.length ≤ 475000 := by rw [HYT.out, List.length_append, encCl_len, List.length_take]; have := L8.out; omega
        by_cases hlt : k < a.cl.length
        · have k1 : (k : Int) < (a.cl.length : Int) := by omega
          obtain ⟨ad, hAC, z0, z1, z2, z3, z4, z5⟩ := (HA.out.2.ext (KK.out.2.2 w0 (HE0.out.trans E1.out) HW0.out)).six hlt
          have hz := HOK.out.2.2.2.2.2.2.1 _ (List.getElem_mem hlt)
          have HTK : Hid (encCl (a.cl.take (k + 1)) = encCl (a.cl.take k) ++ (leB 8 a.cl[k].used ++ leB 8 a.cl[k].cap ++ leB 8 a.cl[k].bits)) := by show _ = _; rw [List.take_succ_eq_append_getElem hlt, encCl_snoc]
          generalize a.cl[k] = z at *
          subst hAC
          have hz1 := hz.2.1
          have hz2 := hz.2.2.1
          have hz3 := hz.2.2.2.1
          go_wp2_with (first
            | ((with_reducible show wpList _ _ _ ({ dst := some 8, op := Op.alloc 70, type := _, pos := _, after := _, guard := _ } :: _) _ _); refine alA _ rfl 70 rfl _ _ zero_stmt ?_; intro g6 wa hg hs1 k3 e3; have Z6 := Lib.hid k3; have T6 := Lib.hid e3; have G6 := Lib.hid (Nat.le_of_eq hg); clear hg hs1 k3 e3 z0 z1 z2 z3 z4 z5)
            | ((with_reducible show wpList _ _ _ ({ dst := none, op := Op.store 70 _ _, type := _, pos := _, after := _, guard := _ } :: _) _ _); refine stA _ rfl 70 70 _ _ rfl g6 _ (stV z) rfl rfl Z6.out size_stmt rfl (stV_one _) ?_; intro wb hs k4 q4; have Z7 := Lib.hid k4; have T7 := Lib.hid (T6.out.grown q4 (fun q hq => by injection hq with hq; have := G6.out; omega)); obtain ⟨z0, z1, z2, z3, z4, z5⟩ := st_cells k4; clear hs k4 q4))
          have P0 := Lib.hid (KP.ext (base := base) T7.out)
          have D0 := Lib.hid (OB.out.ext T7.out)
          have S0 : Hid (base ≤ wb.heap.size) := Nat.le_trans BB.out P0.out.2.1
          obtain ⟨v0, hv0⟩ : ∃ v0, v0 = ys := ⟨_, rfl⟩
          have HV0 : Hid (v0 = ys) := hv0
          have M0 : Hid (v0.length ≤ 475000) := by show _ ≤ _; rw [hv0]; exact hyl
          obtain ⟨F0, hF0⟩ : ∃ F0, F0 = A' := ⟨_, rfl⟩
          obtain ⟨f0, hf0⟩ : ∃ f0, f0 = c' := ⟨_, rfl⟩
          rw [← hv0, ← hF0, ← hf0] at D0
          rw [← hv0, ← hF0, ← hf0]
          clear hv0 hF0 hf0
          refine (snum_calls base F0 f0 v0 8 (z.used) _ D0.out S0.out (by have := M0.out; omega) rfl hz1).mono ?_
          rintro e x1 ⟨F1, f1, rfl, o, q⟩
          have M1 : Hid ((v0 ++ leB (8 : Int).toNat (z.used)).length ≤ 475000 + 8 * 1) := by show _ ≤ _; rw [List.length_append, leB_length]; simp only [show ((8 : Int).toNat) = 8 from rfl]; have := M0.out; omega
          have P1 := Lib.hid (P0.out.trans q)
          have S1 : Hid (base ≤ x1.heap.size) := Nat.le_trans S0.out q.2.1
          have W1 := Lib.hid (show Arr x1 g6 70 (stV z) from q.1 _ _ _ (by decide) Z7.out)
          have D1 := Lib.hid o
          generalize hy : v0 ++ leB (8 : Int).toNat (z.used) = v1 at *
          have HV1 : Hid (v0 ++ leB 8 (z.used) = v1) := hy
          clear o q hy z0 z1 z2 z3 z4 z5
          obtain ⟨z0, z1, z2, z3, z4, z5⟩ := st_cells W1.out
          go_wp2_with fail
          refine (snum_calls base F1 f1 v1 8 (z.cap) _ D1.out S1.out (by have := M1.out; omega) rfl hz2).mono ?_
          rintro e x2 ⟨F2, f2, rfl, o, q⟩
          have M2 : Hid ((v1 ++ leB (8 : Int).toNat (z.cap)).length ≤ 475000 + 8 * 2) := by show _ ≤ _; rw [List.length_append, leB_length]; simp only [show ((8 : Int).toNat) = 8 from rfl]; have := M1.out; omega
          have P2 := Lib.hid (P1.out.trans q)
          have S2 : Hid (base ≤ x2.heap.size) := Nat.le_trans S1.out q.2.1
          have W2 := Lib.hid (show Arr x2 g6 70 (stV z) from q.1 _ _ _ (by decide) W1.out)
          have D2 := Lib.hid o
          generalize hy : v1 ++ leB (8 : Int).toNat (z.cap) = v2 at *
          have HV2 : Hid (v1 ++ leB 8 (z.cap) = v2) := hy
          clear o q hy z0 z1 z2 z3 z4 z5
          obtain ⟨z0, z1, z2, z3, z4, z5⟩ := st_cells W2.out
          go_wp2_with fail
          refine (snum_calls base F2 f2 v2 8 (z.bits) _ D2.out S2.out (by have := M2.out; omega) rfl hz3).mono ?_
          rintro e x3 ⟨F3, f3, rfl, o, q⟩
          have M3 : Hid ((v2 ++ leB (8 : Int).toNat (z.bits)).length ≤ 475000 + 8 * 3) := by show _ ≤ _; rw [List.length_append, leB_length]; simp only [show ((8 : Int).toNat) = 8 from rfl]; have := M2.out; omega
          have P3 := Lib.hid (P2.out.trans q)
          have S3 : Hid (base ≤ x3.heap.size) := Nat.le_trans S2.out q.2.1
          have W3 := Lib.hid (show Arr x3 g6 70 (stV z) from q.1 _ _ _ (by decide) W2.out)
          have D3 := Lib.hid o
          generalize hy : v2 ++ leB (8 : Int).toNat (z.bits) = v3 at *
          have HV3 : Hid (v2 ++ leB 8 (z.bits) = v3) := hy
          clear o q hy z0 z1 z2 z3 z4 z5
          obtain ⟨z0, z1, z2, z3, z4, z5⟩ := st_cells W3.out
          go_wp2_with fail
          go_roundw
          case rel => exact ⟨k + 1, F3, f3, v3, by omega, by go_num, rfl, by rw [← HV3.out, ← HV2.out, ← HV1.out, HV0.out, HYT.out, HTK.out]; simp, D3.out, S3.out, KK.out.trans P3.out⟩
          case measure => simp [intOf]; omega
        · have k1 : ¬ (k : Int) < (a.cl.length : Int) := by omega
          obtain rfl : k = a.cl.length := by omega
          rw [List.take_of_length_le (Nat.le_refl _)] at HYT
          have HFIN : Hid (ys = y1 ++ encA a) := by
            show _ = _
            rw [HYT.out, ← Y8.out, HYS.out, Y7.out, Y6.out, Y5.out, Y4.out, Y3.out, Y2.out]
            simp [encA]
          go_wp2_with fail
          go_ret
          rw [← HFIN.out]
          exact ⟨A', c', rfl, OB.out, (KP.ext E1.out).trans KK.out⟩
end Go.Proofs.YtkbjnlbbfapgdaaDoor

namespace Go.Proofs.YtkbjnlbbfapgdaaDoor
open Go.RowKit

def encAs (l : List Ac) : List UInt8 := l.flatMap encA
/-- a ledger's bytes, and sealed -/
def encL (seq : Nat) (l : List Ac) : List UInt8 := leB 8 seq ++ leB 1 l.length ++ encAs l
def snapB (seq : Nat) (l : List Ac) : List UInt8 := sealB (encL seq l)
def small (a : Ac) : Prop := a.ls.length ≤ 100 ∧ a.cl.length ≤ 100 ∧ a.ten.size ≤ 1000
theorem encAs_le {l : List Ac} (h : ∀ a ∈ l, small a) : (encAs l).length ≤ l.length * 5100 := by
  induction l with
  | nil => simp [encAs]
  | cons a l ih =>
    have h1 := ih (fun x hx => h x (List.mem_cons_of_mem _ hx))
    obtain ⟨s1, s2, s3⟩ := h a (List.mem_cons_self ..)
    have h2 := encA_len a
    simp only [encAs, List.flatMap_cons, List.length_append, List.length_cons] at h1 ⊢
    omega
theorem encAs_snoc (l : List Ac) (a : Ac) : encAs (l ++ [a]) = encAs l ++ encA a := by simp [encAs]

set_option maxHeartbeats 8000000 in
theorem senc_calls (seq : Nat) (A : Option Addr) (c : Nat) (xs : List Ax) (w : World) (hs : seq < 18446744073709551616) (hb : RdL w A xs) (hok : ∀ x ∈ xs, x.a.ok) (hsm : ∀ a ∈ acs xs, small a) (hl : xs.length ≤ 12) (hL : Laid w) :
    Calls Tryd.prog 24 #[(.agg #[.int .u64 seq, .slice A xs.length c])] w (fun e w' => if rightL (acs xs) = true then RetB2 w (snapB seq (acs xs)) (.int .i64 0) e w' else e = .returned (.tuple #[.slice none 0 0, .int .i64 2]) ∧ Ext w w') := by
  have HR : Hid (∀ W, Ext w W → Calls Tryd.prog 45 #[(.agg #[.int .u64 seq, .slice A xs.length c])] W (RetV W (.bool (rightL (acs xs))))) := fun W e => lgright_calls seq A c xs W (hb.ext e) hok (by omega) (hL.ext e)
  have HB := Lib.hid hb
  have HOK := Lib.hid hok
  have HSM : Hid (∀ x ∈ xs, small x.a) := fun x hx => hsm x.a (List.mem_map_of_mem hx)
  have HLE : Hid (∀ k, (encAs ((acs xs).take k)).length ≤ 61200) := fun k => by
    have h1 := encAs_le (l := (acs xs).take k) (fun a ha => hsm a (List.mem_of_mem_take ha))
    have h2 : ((acs xs).take k).length ≤ 12 := by rw [List.length_take, acs_len]; omega
    omega
  have HAL : Hid ((acs xs).length = xs.length) := acs_len xs
  clear hb hok hsm hL
  cases hr : rightL (acs xs) with
  | false =>
    rw [hr] at HR
    clear hr
    go_enter Tryd.func24, Tryd.ntmps24
    go_wp2_with (first
      | ((with_reducible show wpList _ _ _ ({ dst := some 1, op := Op.box 40 _, type := _, pos := _, after := _, guard := _ } :: _) _ _); refine bxA _ rfl 40 _ rfl _ rfl ?_; intro g1 w1 hg hs1 k1 e1; have E1 := Lib.hid e1; obtain ⟨a0, a1⟩ := lg_cells k1; clear hg hs1 k1 e1)
      | (go_at_call 45; refine (HR.out _ E1.out).mono ?_; rintro e w2 ⟨rfl, e2⟩; have E2 := Lib.hid (E1.out.trans e2); clear e2 a0 a1))
    go_ret2
    exact ⟨rfl, E2.out⟩
  | true =>
    rw [hr] at HR
    change Calls _ _ _ _ (RetB2 w (snapB seq (acs xs)) (.int .i64 0))
    clear hr
    have u1 : IntKind.u64.wrap (xs.length : Int) = (xs.length : Int) := IntWalk.u64_in _ (by omega)
    go_enter Tryd.func24, Tryd.ntmps24
    go_wp2_with (first
      | ((with_reducible show wpList _ _ _ ({ dst := some 1, op := Op.box 40 _, type := _, pos := _, after := _, guard := _ } :: _) _ _); refine bxA _ rfl 40 _ rfl _ rfl ?_; intro g1 w1 hg hs1 k1 e1; have X1 := Lib.hid k1; have E1 := Lib.hid e1; obtain ⟨a0, a1⟩ := lg_cells k1; clear hg hs1 k1 e1)
      | (go_at_call 45; refine (HR.out _ E1.out).mono ?_; rintro e w2 ⟨rfl, e2⟩; have E2 := Lib.hid (E1.out.trans e2); have X2 := Lib.hid (X1.out.ext e2); clear e2 a0 a1; obtain ⟨a0, a1⟩ := lg_cells X2.out))
    clear a0 a1
    go_loopw [15] (fun i wr => ∃ k : Nat, k ≤ xs.length ∧ i = .int .i64 k ∧ Ext w2 wr) (fun i _ => xs.length - (intOf i).toNat)
    case atStart => exact ⟨0, by omega, rfl, Ext.refl _⟩
    case round =>
      obtain ⟨k, hk, rfl, hE⟩ := hrel
      have E3 := Lib.hid hE
      have F3 := Lib.hid (E2.out.trans hE)
      have X3 := Lib.hid (X2.out.ext hE)
      clear hE
      by_cases hlt : k < xs.length
      · have k1 : (k : Int) < (xs.length : Int) := by omega
        obtain ⟨ad, rfl, x0, x1, x2, x3, x4, x5, x6⟩ := (HB.out.rd.ext F3.out).seven hlt
        have hsx := HSM.out _ (List.getElem_mem hlt)
        generalize xs[k] = x at *
        have q1 : decide ((65535 : Int) < (x.a.ls.length : Int)) = false := decide_eq_false (by have := hsx.1; omega)
        clear hsx
        go_wp2_with (first
          | ((with_reducible show wpList _ _ _ ({ dst := some 5, op := Op.alloc 26, type := _, pos := _, after := _, guard := _ } :: _) _ _); refine alA _ rfl 26 rfl _ _ zero_acct ?_; intro g5 w5 hg hs1 k3 e3; have Y5 := Lib.hid k3; have T5 := Lib.hid e3; have G5 := Lib.hid (Nat.le_of_eq hg); clear hg hs1 k3 e3 x0 x1 x2 x3 x4 x5 x6)
          | ((with_reducible show wpList _ _ _ ({ dst := none, op := Op.store 26 _ _, type := _, pos := _, after := _, guard := _ } :: _) _ _); refine stA _ rfl 26 26 _ _ rfl g5 _ (acV x.a x.AL x.cL x.AC x.cC) rfl rfl Y5.out size_acct rfl (ac_one _ _ _ _ _) ?_; intro w6 hs k4 g4; have T6 := Lib.hid (show Ext wr w6 from T5.out.grown g4 (fun k hk => by injection hk with hk; have := G5.out; omega)); obtain ⟨y0, y1, y2, y3, y4, y5, y6⟩ := ac_cells k4; clear hs k4 g4))
        go_roundw
        case rel => exact ⟨k + 1, by omega, by go_num, E3.out.trans T6.out⟩
        case measure => simp [intOf]; omega
      · have k1 : ¬ (k : Int) < (xs.length : Int) := by omega
        obtain ⟨a0, a1⟩ := lg_cells X3.out
        obtain ⟨base, hbase⟩ : ∃ base, base = wr.heap.size := ⟨_, rfl⟩
        have HBS := Lib.hid (Nat.le_of_eq hbase)
        have HBW : Hid (w.heap.size ≤ base) := by show _ ≤ _; rw [hbase]; exact F3.out.size
        have HBE := Lib.hid hbase
        clear hbase
        go_wp2_with fail
        refine (snum_calls base none 0 [] 8 seq _ (OwnB.nil _ _) HBS.out (by simp) rfl hs).mono ?_
        rintro e w4 ⟨A4, c4, rfl, o, q⟩
        have O4 := Lib.hid o
        have K4 := Lib.hid q
        clear o q a0 a1
        obtain ⟨a0, a1⟩ := lg_cells (K4.out.1 _ _ _ (by decide) X3.out)
        have L4 : Hid (([] ++ leB (8 : Int).toNat seq).length = 8) := by show _ = _; rw [List.nil_append, leB_length]; rfl
        generalize hy : [] ++ leB (8 : Int).toNat seq = y4 at *
        have Y4 : Hid (y4 = leB 8 seq) := by show _ = _; rw [← hy]; rfl
        clear hy
        go_wp2_with fail
        refine (snum_calls base A4 c4 y4 1 xs.length _ O4.out (Nat.le_trans HBS.out K4.out.2.1) (by have := L4.out; omega) rfl (by omega)).mono ?_
        rintro e w5 ⟨A5, c5, rfl, o, q⟩
        have O5 := Lib.hid o
        have K5 := Lib.hid (K4.out.trans q)
        clear o q a0 a1
        obtain ⟨a0, a1⟩ := lg_cells (K5.out.1 _ _ _ (by decide) X3.out)
        have L5 : Hid ((y4 ++ leB (1 : Int).toNat xs.length).length = 9) := by show _ = _; rw [List.length_append, leB_length, L4.out]; rfl
        generalize hy : y4 ++ leB (1 : Int).toNat xs.length = y5 at *
        have Y5 : Hid (y5 = y4 ++ leB 1 xs.length) := by show _ = _; rw [← hy]; rfl
        clear hy
        obtain ⟨wz, hwz⟩ : ∃ wz, wz = wr := ⟨_, rfl⟩
        rw [← hwz] at K5 X3 F3 HBE
        clear hwz
        go_wp2_with fail
        clear a0 a1
        go_loopw [6, 36] (fun b i wr => ∃ k : Nat, ∃ A' c' ys, k ≤ xs.length ∧ i = .int .i64 k ∧ b = .slice A' (List.length ys) c' ∧ ys = y5 ++ encAs ((acs xs).take k) ∧ OwnB wr base A' c' ys ∧ KP base wz wr) (fun _ i _ => xs.length - (intOf i).toNat)
        case atStart => exact ⟨0, A5, c5, y5, by omega, rfl, rfl, by simp [encAs], O5.out, K5.out⟩
        case round =>
          obtain ⟨k, A', c', ys, hk, rfl, rfl, hys, ho, hkp⟩ := hrel
          have HYS := Lib.hid hys
          have OB := Lib.hid ho
          have KK := Lib.hid hkp
          have BB : Hid (base ≤ wr.heap.size) := by show _ ≤ _; have := hkp.2.1; have := HBE.out; omega
          have hyl : ys.length ≤ 70000 := by rw [hys, List.length_append]; have := L5.out; have := HLE.out k; omega
          clear hys ho hkp
          have FF := Lib.hid (KK.out.2.2 w F3.out HBW.out)
          by_cases hlt : k < xs.length
          · have k1 : (k : Int) < (xs.length : Int) := by omega
            have hsx := HSM.out _ (List.getElem_mem hlt)
            have hox := HOK.out _ (List.getElem_mem hlt)
            have HXR := Lib.hid (HB.out.each _ (List.getElem_mem hlt)).rd
            obtain ⟨ad, rfl, x0, x1, x2, x3, x4, x5, x6⟩ := (HB.out.rd.ext FF.out).seven hlt
            have HTK : Hid (encAs ((acs xs).take (k + 1)) = encAs ((acs xs).take k) ++ encA xs[k].a) := by
              show _ = _
              rw [List.take_succ_eq_append_getElem (by rw [acs_len]; exact hlt), encAs_snoc, ax_get hlt]
            generalize xs[k] = x at *
            have HOX := Lib.hid hox
            have HSX := Lib.hid hsx
            clear hsx hox
            go_wp2_with (first
              | ((with_reducible show wpList _ _ _ ({ dst := some 8, op := Op.alloc 26, type := _, pos := _, after := _, guard := _ } :: _) _ _); refine alA _ rfl 26 rfl _ _ zero_acct ?_; intro g5 w6 hg hs1 k3 e3; have Y6 := Lib.hid k3; have T6 := Lib.hid e3; have G6 := Lib.hid (Nat.le_of_eq hg); clear hg hs1 k3 e3 x0 x1 x2 x3 x4 x5 x6)
              | ((with_reducible show wpList _ _ _ ({ dst := none, op := Op.store 26 _ _, type := _, pos := _, after := _, guard := _ } :: _) _ _); refine stA _ rfl 26 26 _ _ rfl g5 _ (acV x.a x.AL x.cL x.AC x.cC) rfl rfl Y6.out size_acct rfl (ac_one _ _ _ _ _) ?_; intro w7 hs k4 g4; have T7 := Lib.hid (show Ext wr w7 from T6.out.grown g4 (fun k hk => by injection hk with hk; have := G6.out; omega)); obtain ⟨y0, y1, y2, y3, y4, y5, y6⟩ := ac_cells k4; clear hs k4 g4)
              | (go_at_call 70; refine (sput_calls w base A' c' ys x.a x.AL x.AC x.cL x.cC _ (FF.out.trans T7.out) HBW.out (OB.out.ext T7.out) (Nat.le_trans BB.out T7.out.size) HXR.out HOX.out (by omega) (by have := HSX.out.1; omega) (by have := HSX.out.2.1; omega) HSX.out.2.2).mono ?_; rintro e w8 ⟨A8, c8, rfl, o, q⟩; have O8 := Lib.hid o; have K8 := Lib.hid ((KK.out.trans (KP.ext T7.out)).trans q); clear o q y0 y1 y2 y3 y4 y5 y6))
            go_roundw
            case rel => exact ⟨k + 1, A8, c8, ys ++ encA x.a, by omega, by go_num, (by simp), by rw [HYS.out, HTK.out, List.append_assoc], O8.out, K8.out⟩
            case measure => simp [intOf]; omega
          · have k1 : ¬ (k : Int) < (xs.length : Int) := by omega
            have HFIN : Hid (ys = encL seq (acs xs)) := by
              show _ = _
              rw [HYS.out, Y5.out, Y4.out, List.take_of_length_le (by rw [HAL.out]; omega)]
              unfold encL
              rw [HAL.out]
            go_wp2_with (first
              | (go_at_call 71; refine (seal_calls A' c' ys _ OB.out.rd (by omega)).mono ?_; rintro e w9 ⟨A9, c9, rfl, o, q⟩; have O9 := Lib.hid o; have E9 := Lib.hid q; clear o q))
            go_ret2
            refine ⟨A9, c9, ?_, ?_, FF.out.trans E9.out⟩
            · unfold snapB sealB; rw [← HFIN.out, List.length_append]; rfl
            · unfold snapB sealB; rw [← HFIN.out]; exact O9.out.lower (by have := BB.out; have := HBW.out; omega)
end Go.Proofs.YtkbjnlbbfapgdaaDoor

namespace Go.Proofs.YtkbjnlbbfapgdaaDoor
open Go.RowKit

/-- parts off the front of bytes -/
abbrev Rdr (α : Type) := List UInt8 → Option (α × List UInt8)
def pN (k : Nat) : Rdr Nat := fun r => if r.length < k then none else some (leN (r.take k), r.drop k)
def pB (k : Nat) : Rdr (List UInt8) := fun r => if r.length < k then none else some (r.take k, r.drop k)
def pT : Rdr (List UInt8) := fun r => (pN 1 r).bind fun x => pB x.1 x.2
def pR {α : Type} (p : Rdr α) : Nat → Rdr (List α)
  | 0, r => some ([], r)
  | n + 1, r => (p r).bind fun x => (pR p n x.2).bind fun y => some (x.1 :: y.1, y.2)

/-- what a reader reads are just the bytes that are written -/
structure Cod {α : Type} (p : Rdr α) (enc : α → List UInt8) (ok : α → Prop) : Prop where
  inv : ∀ r x r', p r = some (x, r') → r = enc x ++ r' ∧ ok x
  back : ∀ x r, ok x → p (enc x ++ r) = some (x, r)

theorem cod_N (k : Nat) : Cod (pN k) (leB k) (fun n => n < 256 ^ k) := by
  refine ⟨fun r x r' h => ?_, fun n r h => ?_⟩
  · unfold pN at h
    split at h
    · cases h
    · rename_i hk
      injection h with h
      injection h with h1 h2
      have hl : (r.take k).length = k := by rw [List.length_take]; omega
      have h3 := leB_leN (r.take k)
      rw [hl] at h3
      have h4 := leN_lt (r.take k)
      rw [hl] at h4
      subst h1 h2
      rw [h3, List.take_append_drop]
      exact ⟨rfl, h4⟩
  · unfold pN
    have hl := leB_length k n
    rw [if_neg (by rw [List.length_append, hl]; omega), List.take_append_of_le_length (by omega), List.drop_append_of_le_length (by omega), List.take_of_length_le (by omega), List.drop_of_length_le (by omega), leN_leB, Nat.mod_eq_of_lt h]
    rfl
theorem cod_B (k : Nat) : Cod (pB k) id (fun l => l.length = k) := by
  refine ⟨fun r x r' h => ?_, fun l r h => ?_⟩
  · unfold pB at h
    split at h
    · cases h
    · injection h with h
      injection h with h1 h2
      subst h1 h2
      exact ⟨(List.take_append_drop k r).symm, by rw [List.length_take]; omega⟩
  · subst h
    unfold pB
    rw [if_neg (by simp)]
    simp
def encT (l : List UInt8) : List UInt8 := leB 1 l.length ++ l
theorem cod_T : Cod pT encT (fun l => l.length < 256) := by
  refine ⟨fun r x r' h => ?_, fun l r h => ?_⟩
  · unfold pT at h
    obtain ⟨⟨n, r1⟩, h1, h2⟩ := Option.bind_eq_some_iff.1 h
    obtain ⟨h3, h4⟩ := (cod_N 1).inv _ _ _ h1
    obtain ⟨h5, h6⟩ := (cod_B n).inv _ _ _ h2
    simp only at h5
    subst h6
    exact ⟨by rw [h3, h5]; simp [encT], h4⟩
  · unfold pT encT
    rw [List.append_assoc, (cod_N 1).back _ _ h]
    exact (cod_B l.length).back l r rfl
theorem cod_R {α : Type} {p : Rdr α} {enc : α → List UInt8} {ok : α → Prop} (h : Cod p enc ok) (n : Nat) : Cod (pR p n) (fun l => l.flatMap enc) (fun l => l.length = n ∧ ∀ x ∈ l, ok x) := by
  induction n with
  | zero =>
    refine ⟨fun r x r' h => ?_, fun l r h => ?_⟩
    · injection h with h
      injection h with h1 h2
      subst h1 h2
      simp
    · obtain rfl := List.eq_nil_of_length_eq_zero h.1
      rfl
  | succ n ih =>
    refine ⟨fun r x r' hh => ?_, fun l r hh => ?_⟩
    · unfold pR at hh
      obtain ⟨⟨a, r1⟩, h1, h2⟩ := Option.bind_eq_some_iff.1 hh
      obtain ⟨⟨l, r2⟩, h3, h4⟩ := Option.bind_eq_some_iff.1 h2
      injection h4 with h4
      injection h4 with h5 h6
      simp only at h5 h6
      subst h5 h6
      obtain ⟨e1, o1⟩ := h.inv _ _ _ h1
      obtain ⟨e2, o2⟩ := ih.inv _ _ _ h3
      simp only at e2
      refine ⟨by rw [e1, e2]; simp, by simp [o2.1], ?_⟩
      intro y hy
      rcases List.mem_cons.1 hy with rfl | hy
      · exact o1
      · exact o2.2 y hy
    · match l, hh with
      | a :: l, hh =>
        unfold pR
        rw [List.flatMap_cons, List.append_assoc, h.back a _ (hh.2 a (List.mem_cons_self ..))]
        show (pR p n (l.flatMap enc ++ r)).bind _ = _
        rw [ih.back l r ⟨by simpa using hh.1, fun x hx => hh.2 x (List.mem_cons_of_mem _ hx)⟩]
        rfl
/-- what stands behind is left -/
theorem Cod.ext {α : Type} {p : Rdr α} {enc : α → List UInt8} {ok : α → Prop} (h : Cod p enc ok) {r r' t : List UInt8} {x : α} (hp : p r = some (x, r')) : p (r ++ t) = some (x, r' ++ t) := by
  obtain ⟨e, o⟩ := h.inv _ _ _ hp
  rw [e, List.append_assoc]
  exact h.back x _ o

def pLz : Rdr Lz := fun r => (pN 8 r).bind fun a => (pN 8 a.2).bind fun b => some (⟨a.1, b.1⟩, b.2)
theorem cod_Lz : Cod pLz encLz Lz.ok := by
  refine ⟨fun r x r' h => ?_, fun x r h => ?_⟩
  · unfold pLz at h
    obtain ⟨⟨a, r1⟩, h1, h⟩ := Option.bind_eq_some_iff.1 h
    obtain ⟨⟨b, r2⟩, h2, h⟩ := Option.bind_eq_some_iff.1 h
    injection h with h
    injection h with h5 h6
    simp only at h5 h6 h2
    subst h5 h6
    obtain ⟨e1, o1⟩ := (cod_N 8).inv _ _ _ h1
    obtain ⟨e2, o2⟩ := (cod_N 8).inv _ _ _ h2
    exact ⟨by rw [e1, e2]; simp [encLz], o1, o2⟩
  · have b1 := fun r => (cod_N 8).back x.id r h.1
    have b2 := fun r => (cod_N 8).back x.sz r h.2
    simp only [pLz, encLz, List.append_assoc, b1, b2, Option.bind_some]
/-- a statement, as far as its bytes tell it -/
def rawS (u c b : Nat) : St := ⟨ByteArray.empty, 0, u, c, b, dueV u b⟩
def pSt : Rdr St := fun r => (pN 8 r).bind fun a => (pN 8 a.2).bind fun b => (pN 8 b.2).bind fun c => some (rawS a.1 b.1 c.1, c.2)
def rawOk (s : St) : Prop := s = rawS s.used s.cap s.bits ∧ s.used < 18446744073709551616 ∧ s.cap < 18446744073709551616 ∧ s.bits < 18446744073709551616
theorem cod_St : Cod pSt encSt rawOk := by
  refine ⟨fun r x r' h => ?_, fun x r h => ?_⟩
  · unfold pSt at h
    obtain ⟨⟨a, r1⟩, h1, h⟩ := Option.bind_eq_some_iff.1 h
    obtain ⟨⟨b, r2⟩, h2, h⟩ := Option.bind_eq_some_iff.1 h
    obtain ⟨⟨c, r3⟩, h3, h⟩ := Option.bind_eq_some_iff.1 h
    injection h with h
    injection h with h5 h6
    simp only at h5 h6 h2 h3
    subst h5 h6
    obtain ⟨e1, o1⟩ := (cod_N 8).inv _ _ _ h1
    obtain ⟨e2, o2⟩ := (cod_N 8).inv _ _ _ h2
    obtain ⟨e3, o3⟩ := (cod_N 8).inv _ _ _ h3
    exact ⟨by rw [e1, e2, e3]; simp [encSt, rawS], rfl, o1, o2, o3⟩
  · obtain ⟨h0, h1, h2, h3⟩ := h
    have b1 := fun r => (cod_N 8).back x.used r h1
    have b2 := fun r => (cod_N 8).back x.cap r h2
    have b3 := fun r => (cod_N 8).back x.bits r h3
    simp only [pSt, encSt, List.append_assoc, b1, b2, b3, Option.bind_some]
    rw [← h0]

def fixS (ten : ByteArray) (i : Nat) (s : St) : St := { s with ten := ten, per := i }
def fixF (ten : ByteArray) : Nat → List St → List St
  | _, [] => []
  | i, s :: l => fixS ten i s :: fixF ten (i + 1) l
def fixCl (ten : ByteArray) (cl : List St) : List St := fixF ten 0 cl
theorem fixF_len (ten : ByteArray) (i : Nat) (cl : List St) : (fixF ten i cl).length = cl.length := by
  induction cl generalizing i with
  | nil => rfl
  | cons s l ih => unfold fixF; rw [List.length_cons, List.length_cons, ih]
theorem fixF_get (ten : ByteArray) (i : Nat) (cl : List St) (k : Nat) : (fixF ten i cl)[k]? = cl[k]?.map (fixS ten (i + k)) := by
  induction cl generalizing i k with
  | nil => simp [fixF]
  | cons s l ih =>
    unfold fixF
    cases k with
    | zero => simp
    | succ k => rw [List.getElem?_cons_succ, List.getElem?_cons_succ, ih, show i + 1 + k = i + (k + 1) by omega]
def mkA (ten : List UInt8) (cap used bits : Nat) (ls : List Lz) (cl : List St) : Ac := ⟨⟨ten.toArray⟩, cap, used, bits, cl.length, ls, fixCl ⟨ten.toArray⟩ cl⟩
def pA : Rdr Ac := fun r => (pT r).bind fun t => (pN 8 t.2).bind fun c => (pN 8 c.2).bind fun u => (pN 8 u.2).bind fun b => (pN 2 b.2).bind fun n => (pR pLz n.1 n.2).bind fun l => (pN 4 l.2).bind fun m => (pR pSt m.1 m.2).bind fun s =>
  some (mkA t.1 c.1 u.1 b.1 l.1 s.1, s.2)
def accOk (a : Ac) : Prop := ∃ (t : List UInt8) (cl : List St), t.length < 256 ∧ a = mkA t a.cap a.used a.bits a.ls cl ∧ a.cap < 18446744073709551616 ∧ a.used < 18446744073709551616 ∧ a.bits < 18446744073709551616 ∧ a.ls.length < 65536 ∧ (∀ l ∈ a.ls, l.ok) ∧ cl.length < 4294967296 ∧ ∀ s ∈ cl, rawOk s
theorem encCl_fix (ten : ByteArray) (cl : List St) : encCl (fixCl ten cl) = encCl cl := by
  unfold encCl fixCl
  have key : ∀ (cl : List St) (i : Nat), (fixF ten i cl).flatMap encSt = cl.flatMap encSt := by
    intro cl
    induction cl with
    | nil => intro i; rfl
    | cons s l ih => intro i; unfold fixF; rw [List.flatMap_cons, List.flatMap_cons, ih]; rfl
  exact key cl 0
theorem fixCl_len (ten : ByteArray) (cl : List St) : (fixCl ten cl).length = cl.length := fixF_len ten 0 cl
theorem encA_mk (t : List UInt8) (c u b : Nat) (ls : List Lz) (cl : List St) : encA (mkA t c u b ls cl) = encT t ++ (leB 8 c ++ (leB 8 u ++ (leB 8 b ++ (leB 2 ls.length ++ (encLs ls ++ (leB 4 cl.length ++ encCl cl)))))) := by
  have h1 : (⟨t.toArray⟩ : ByteArray).size = t.length := by simp [ByteArray.size]
  simp only [encA, mkA, encCl_fix, fixCl_len, encT, h1, List.append_assoc]
theorem cod_A : Cod pA encA accOk := by
  refine ⟨fun r x r' h => ?_, fun x r h => ?_⟩
  · unfold pA at h
    obtain ⟨⟨t, r1⟩, h1, h⟩ := Option.bind_eq_some_iff.1 h
    obtain ⟨⟨c, r2⟩, h2, h⟩ := Option.bind_eq_some_iff.1 h
    obtain ⟨⟨u, r3⟩, h3, h⟩ := Option.bind_eq_some_iff.1 h
    obtain ⟨⟨b, r4⟩, h4, h⟩ := Option.bind_eq_some_iff.1 h
    obtain ⟨⟨n, r5⟩, h5, h⟩ := Option.bind_eq_some_iff.1 h
    obtain ⟨⟨ls, r6⟩, h6, h⟩ := Option.bind_eq_some_iff.1 h
    obtain ⟨⟨m, r7⟩, h7, h⟩ := Option.bind_eq_some_iff.1 h
    obtain ⟨⟨cl, r8⟩, h8, h⟩ := Option.bind_eq_some_iff.1 h
    injection h with h
    injection h with hx hr
    simp only at h2 h3 h4 h5 h6 h7 h8 hx hr
    subst hx hr
    obtain ⟨e1, o1⟩ := cod_T.inv _ _ _ h1
    obtain ⟨e2, o2⟩ := (cod_N 8).inv _ _ _ h2
    obtain ⟨e3, o3⟩ := (cod_N 8).inv _ _ _ h3
    obtain ⟨e4, o4⟩ := (cod_N 8).inv _ _ _ h4
    obtain ⟨e5, o5⟩ := (cod_N 2).inv _ _ _ h5
    obtain ⟨e6, o6⟩ := (cod_R cod_Lz n).inv _ _ _ h6
    obtain ⟨e7, o7⟩ := (cod_N 4).inv _ _ _ h7
    obtain ⟨e8, o8⟩ := (cod_R cod_St m).inv _ _ _ h8
    refine ⟨?_, t, cl, o1, rfl, o2, o3, o4, by show ls.length < _; rw [o6.1]; exact o5, o6.2, by rw [o8.1]; exact o7, o8.2⟩
    rw [encA_mk, e1, e2, e3, e4, e5, e6, e7, e8, o6.1, o8.1]
    simp only [List.append_assoc]
    rfl
  · obtain ⟨t, cl, o1, hx, o2, o3, o4, o5, o6, o7, o8⟩ := h
    have b1 := fun r => cod_T.back t r o1
    have b2 := fun r => (cod_N 8).back x.cap r o2
    have b3 := fun r => (cod_N 8).back x.used r o3
    have b4 := fun r => (cod_N 8).back x.bits r o4
    have b5 := fun r => (cod_N 2).back x.ls.length r o5
    have b6 := fun r => (cod_R cod_Lz x.ls.length).back x.ls r ⟨rfl, o6⟩
    have b7 := fun r => (cod_N 4).back cl.length r o7
    have b8 := fun r => (cod_R cod_St cl.length).back cl r ⟨rfl, o8⟩
    rw [hx, encA_mk]
    unfold encLs encCl
    simp only [pA, List.append_assoc, b1, b2, b3, b4, b5, b6, b7, b8, Option.bind_some]

/-- a ledger off the front -/
def pL : Rdr (Nat × List Ac) := fun r => (pN 8 r).bind fun s => (pN 1 s.2).bind fun n => (pR pA n.1 n.2).bind fun l => some ((s.1, l.1), l.2)
def lgOk (x : Nat × List Ac) : Prop := x.1 < 18446744073709551616 ∧ x.2.length < 256 ∧ ∀ a ∈ x.2, accOk a
theorem cod_L : Cod pL (fun x => encL x.1 x.2) lgOk := by
  refine ⟨fun r x r' h => ?_, fun x r h => ?_⟩
  · unfold pL at h
    obtain ⟨⟨s, r1⟩, h1, h⟩ := Option.bind_eq_some_iff.1 h
    obtain ⟨⟨n, r2⟩, h2, h⟩ := Option.bind_eq_some_iff.1 h
    obtain ⟨⟨l, r3⟩, h3, h⟩ := Option.bind_eq_some_iff.1 h
    injection h with h
    injection h with hx hr
    simp only at h2 h3 hx hr
    subst hx hr
    obtain ⟨e1, o1⟩ := (cod_N 8).inv _ _ _ h1
    obtain ⟨e2, o2⟩ := (cod_N 1).inv _ _ _ h2
    obtain ⟨e3, o3⟩ := (cod_R cod_A n).inv _ _ _ h3
    refine ⟨?_, o1, by show l.length < _; rw [o3.1]; exact o2, o3.2⟩
    rw [e1, e2, e3]
    simp only [encL, encAs, o3.1, List.append_assoc]
  · obtain ⟨o1, o2, o3⟩ := h
    have b1 := fun r => (cod_N 8).back x.1 r o1
    have b2 := fun r => (cod_N 1).back x.2.length r o2
    have b3 := fun r => (cod_R cod_A x.2.length).back x.2 r ⟨rfl, o3⟩
    simp only [pL, encL, encAs, List.append_assoc, b1, b2, b3, Option.bind_some]

theorem tenant_len16 {l : List UInt8} (h : tenantB l = true) : l.length ≤ 16 := by
  unfold tenantB at h
  simp only [Bool.and_eq_true, decide_eq_true_eq] at h
  exact h.1.1.2
/-- a right account is read back -/
theorem right_accOk {a : Ac} (h : rightB a = true) (hok : a.ok) (hl : a.ls.length < 65536) : accOk a := by
  obtain ⟨_, h2, h3, _, h5, h6⟩ := (rightB_iff a hok.2.2.1).1 h
  have ht : a.ten.data.toList.length < 256 := by
    have := tenant_len16 h3
    omega
  refine ⟨a.ten.data.toList, a.cl.map (fun s => rawS s.used s.cap s.bits), ht, ?_, hok.2.1, hok.2.2.1, hok.2.2.2.1, hl, hok.2.2.2.2.2.1, by rw [List.length_map]; omega, ?_⟩
  · rw [Ac.eq_iff]
    refine ⟨rfl, rfl, rfl, rfl, by show a.per = (List.map _ a.cl).length; rw [List.length_map]; exact h6.symm, rfl, ?_⟩
    show a.cl = fixCl a.ten _
    have key : ∀ (cl : List St) (i : Nat), closedR a.ten i cl = true → cl = fixF a.ten i (cl.map (fun s => rawS s.used s.cap s.bits)) := by
      intro cl
      induction cl with
      | nil => intro i _; rfl
      | cons s l ih =>
        intro i hc
        unfold closedR at hc
        simp only [Bool.and_eq_true, decide_eq_true_eq] at hc
        obtain ⟨⟨⟨⟨⟨hp, hd⟩, _⟩, ht⟩, hi⟩, hr⟩ := hc
        rw [List.map_cons]
        unfold fixF
        rw [← ih (i + 1) hr]
        congr 1
        rw [St.eq_iff]
        exact ⟨ht, hi, rfl, rfl, rfl, hd⟩
    exact key a.cl 0 h2
  · intro s hs
    obtain ⟨x, hx, rfl⟩ := List.mem_map.1 hs
    have := hok.2.2.2.2.2.2.1 x hx
    exact ⟨rfl, this.2.1, this.2.2.1, this.2.2.2.1⟩
end Go.Proofs.YtkbjnlbbfapgdaaDoor

namespace Go.Proofs.YtkbjnlbbfapgdaaDoor
open Go.RowKit

theorem mv_ext {w w1 : World} (h : Ext w w1) (row : Option Nat) : w.grownBy w1 row := ⟨h.os, h.tape, h.output, h.size, fun k hk _ => h.below.block k hk⟩
theorem mv_new {w w1 w2 : World} {r row : Option Nat} (h : w.grownBy w1 r) (h2 : w1.grownBy w2 row) (hr : ∀ k, row = some k → w.heap.size ≤ k) : w.grownBy w2 r :=
  ⟨h2.os.trans h.os, h2.tape.trans h.tape, h2.output.trans h.output, Nat.le_trans h.size h2.size, fun k hk hne => (h2.block k (Nat.lt_of_lt_of_le hk h.size) (fun e => by have := hr k e.symm; omega)).trans (h.block k hk hne)⟩

/-- what a cursor has left; none behind an error -/
def oSt (bs : List UInt8) (k : Nat) (er : Int) : Option (List UInt8) := if er = 0 then some (bs.drop k) else none
def CurO (w : World) (g : Nat) (A : Option Addr) (c : Nat) (bs : List UInt8) (o : Option (List UInt8)) : Prop := ∃ k er, CurA w g A c bs k er ∧ oSt bs k er = o
section curo
variable {w w1 : World} {g : Nat} {A : Option Addr} {c : Nat} {bs : List UInt8} {o : Option (List UInt8)}
theorem CurO.ext (h : CurO w g A c bs o) (e : Ext w w1) : CurO w1 g A c bs o := let ⟨k, er, h1, h2⟩ := h; ⟨k, er, h1.ext e, h2⟩
theorem CurO.lt (h : CurO w g A c bs o) : g < w.heap.size := let ⟨k, er, h1, h2⟩ := h; h1.lt
theorem CurO.keep {row : Option Nat} (h : CurO w g A c bs o) (hg : w.grownBy w1 row) (h1 : some g ≠ row) (h2 : ∀ ad, A = some ad → some ad.block ≠ row) : CurO w1 g A c bs o := let ⟨k, er, a1, a2⟩ := h; ⟨k, er, a1.keep hg h1 h2, a2⟩
theorem CurO.le {r : List UInt8} (h : CurO w g A c bs (some r)) : r.length ≤ bs.length := by
  obtain ⟨k, er, h1, h2⟩ := h
  unfold oSt at h2
  split at h2
  · injection h2 with h2; subst h2; simp
  · cases h2
end curo

def nO (o : Option (List UInt8)) (k : Nat) : Nat × Option (List UInt8) := match o.bind (pN k) with | some x => (x.1, some x.2) | none => (0, none)
def tO (o : Option (List UInt8)) : List UInt8 × Option (List UInt8) := match o.bind pT with | some x => (x.1, some x.2) | none => ([], none)
def rO {α : Type} (p : Rdr α) (n : Nat) (o : Option (List UInt8)) : List α × Option (List UInt8) := match o.bind (pR p n) with | some x => (x.1, some x.2) | none => ([], none)
theorem take_o (bs : List UInt8) (k : Nat) (er : Int) (n : Nat) : (takeC bs k er n).1 = (match (oSt bs k er).bind (pB n) with | some x => x.1 | none => []) ∧ oSt bs (takeC bs k er n).2.1 (takeC bs k er n).2.2 = ((oSt bs k er).bind (pB n)).map (·.2) := by
  unfold takeC oSt
  by_cases he : er = 0
  · subst he
    by_cases hs : bs.length - k < n
    · simp [hs, pB]
    · simp [hs, pB, List.drop_drop]
  · simp [he]
theorem pN_pB (k : Nat) (r : List UInt8) : pN k r = (pB k r).map (fun x => (leN x.1, x.2)) := by
  unfold pN pB
  split <;> rfl
theorem num_o (bs : List UInt8) (k : Nat) (er : Int) (width : Int) (hw : okW width = true) : (numC bs k er width).1 = (nO (oSt bs k er) width.toNat).1 ∧ oSt bs (numC bs k er width).2.1 (numC bs k er width).2.2 = (nO (oSt bs k er) width.toNat).2 := by
  obtain ⟨h1, h2⟩ := take_o bs k er width.toNat
  unfold numC nO
  rw [if_pos hw]
  simp only [h1, h2]
  generalize oSt bs k er = o
  cases o with
  | none => exact ⟨rfl, rfl⟩
  | some r =>
    simp only [Option.bind_some, pN_pB]
    cases pB width.toNat r with
    | none => exact ⟨rfl, rfl⟩
    | some x => exact ⟨rfl, rfl⟩
theorem text_o (bs : List UInt8) (k : Nat) (er : Int) : (textC bs k er 1 255).1 = (tO (oSt bs k er)).1 ∧ oSt bs (textC bs k er 1 255).2.1 (textC bs k er 1 255).2.2 = (tO (oSt bs k er)).2 := by
  obtain ⟨h1, h2⟩ := num_o bs k er 1 rfl
  have hlt : (numC bs k er 1).1 < 256 := by
    rw [h1]
    unfold nO
    cases hq : (oSt bs k er).bind (pN (1 : Int).toNat) with
    | none => decide
    | some x =>
      obtain ⟨r, _, hr⟩ := Option.bind_eq_some_iff.1 hq
      exact ((cod_N 1).inv _ _ _ hr).2
  unfold textC
  generalize numC bs k er 1 = N at *
  obtain ⟨n, k', er'⟩ := N
  simp only at h1 h2 hlt ⊢
  by_cases he : er' = 0
  · subst he
    rw [if_neg (by simp), if_neg (by omega)]
    obtain ⟨h3, h4⟩ := take_o bs k' 0 n
    rw [h3, h4]
    have h5 : oSt bs k' 0 = some (bs.drop k') := rfl
    rw [h5] at h2 ⊢
    unfold nO at h1 h2
    cases hq : (oSt bs k er).bind (pN (1 : Int).toNat) with
    | none => rw [hq] at h2; cases h2
    | some x =>
      rw [hq] at h1 h2
      simp only at h1 h2
      have h6 : (oSt bs k er).bind pT = pB n (bs.drop k') := by
        obtain ⟨r, hr, hx⟩ := Option.bind_eq_some_iff.1 hq
        rw [hr]
        show pT r = _
        unfold pT
        rw [show pN 1 r = some x from hx]
        injection h2 with h2
        rw [h1, h2]
        rfl
      unfold tO
      rw [h6]
      simp only [Option.bind_some]
      cases pB n (bs.drop k') with
      | none => exact ⟨rfl, rfl⟩
      | some x => exact ⟨rfl, rfl⟩
  · rw [if_pos he]
    have h5 : oSt bs k' er' = none := if_neg he
    rw [h5] at h2
    have h6 : (oSt bs k er).bind pT = none := by
      cases ho : oSt bs k er with
      | none => rfl
      | some r =>
        rw [ho] at h2
        unfold nO at h2
        show pT r = none
        unfold pT
        cases hq : pN 1 r with
        | none => rfl
        | some x => rw [show (some r).bind (pN (1 : Int).toNat) = some x from hq] at h2; cases h2
    unfold tO
    rw [h6]
    exact ⟨rfl, h5⟩

theorem onum_calls (g : Nat) (A : Option Addr) (c : Nat) (bs : List UInt8) (o : Option (List UInt8)) (width : Int) (w : World) (hc : CurO w g A c bs o) (hl : bs.length ≤ 1000000) (hw : okW width = true) :
    Calls Tryd.prog 74 #[.pointer (some ⟨g, 0, none⟩), .int .i64 width] w (fun e w' => e = .returned (.int .u64 ((nO o width.toNat).1 : Nat)) ∧ w.grownBy w' (some g) ∧ CurO w' g A c bs (nO o width.toNat).2) := by
  obtain ⟨k, er, h1, h2⟩ := hc
  obtain ⟨h3, h4⟩ := num_o bs k er width hw
  rw [h2] at h3 h4
  refine (cnumberA_calls g A c bs k er width w h1 hl).mono ?_
  rintro e w' ⟨rfl, q, hcur⟩
  exact ⟨by rw [h3], q, _, _, hcur, h4⟩
theorem otext_calls (g : Nat) (A : Option Addr) (c : Nat) (bs : List UInt8) (o : Option (List UInt8)) (w : World) (hc : CurO w g A c bs o) (hl : bs.length ≤ 1000000) :
    Calls Tryd.prog 112 #[.pointer (some ⟨g, 0, none⟩), .int .i64 1, .int .i64 255] w (fun e w' => e = .returned (.string ⟨(tO o).1.toArray⟩) ∧ w.grownBy w' (some g) ∧ CurO w' g A c bs (tO o).2) := by
  obtain ⟨k, er, h1, h2⟩ := hc
  obtain ⟨h3, h4⟩ := text_o bs k er
  rw [h2] at h3 h4
  refine (ctextA_calls g A c bs k er 1 255 w h1 hl (by decide)).mono ?_
  rintro e w' ⟨rfl, q, hcur⟩
  exact ⟨by rw [h3], q, _, _, hcur, h4⟩
theorem oerr_calls (g : Nat) (A : Option Addr) (c : Nat) (bs : List UInt8) (o : Option (List UInt8)) (w : World) (hc : CurO w g A c bs o) :
    Calls Tryd.prog 77 #[.pointer (some ⟨g, 0, none⟩)] w (fun e w' => (∃ er : Int, e = .returned (.int .i64 er) ∧ (er != 0) = !o.isSome) ∧ w = w') := by
  obtain ⟨k, er, h1, h2⟩ := hc
  refine (cerrA_calls g A c bs k er w h1).mono ?_
  rintro e w' ⟨rfl, rfl⟩
  refine ⟨⟨er, rfl, ?_⟩, rfl⟩
  rw [← h2]
  unfold oSt
  by_cases he : er = 0 <;> simp [he]
theorem oleft_calls (g : Nat) (A : Option Addr) (c : Nat) (bs r : List UInt8) (w : World) (hc : CurO w g A c bs (some r)) (hl : bs.length ≤ 1000000) :
    Calls Tryd.prog 78 #[.pointer (some ⟨g, 0, none⟩)] w fun e w' => e = .returned (.int .i64 (r.length : Nat)) ∧ ∃ n, w' = w.drewN n := by
  obtain ⟨k, er, h1, h2⟩ := hc
  have hr : r.length = bs.length - k := by
    unfold oSt at h2
    split at h2
    · injection h2 with h2; subst h2; simp
    · cases h2
  rw [hr]
  exact cleftA_calls g A c bs k er w h1 hl

theorem nO_lt (o : Option (List UInt8)) (k : Nat) : (nO o k).1 < 256 ^ k := by
  unfold nO
  cases hq : o.bind (pN k) with
  | none => exact Nat.pow_pos (by decide)
  | some x =>
    obtain ⟨r, _, hr⟩ := Option.bind_eq_some_iff.1 hq
    exact ((cod_N k).inv _ _ _ hr).2
/-- a reader in steps answers as a reader does -/
def Steps {α : Type} (F : Option (List UInt8) → α × Option (List UInt8)) (p : Rdr α) : Prop := ∀ o, (F o).2 = (o.bind p).map (·.2) ∧ ∀ x, o.bind p = some x → (F o).1 = x.1
theorem nO_none (k : Nat) : nO none k = (0, none) := rfl
theorem nO_no {k : Nat} {r : List UInt8} (h : pN k r = none) : nO (some r) k = (0, none) := by unfold nO; rw [show (some r).bind (pN k) = none from h]
theorem nO_yes {k : Nat} {r : List UInt8} {x : Nat × List UInt8} (h : pN k r = some x) : nO (some r) k = (x.1, some x.2) := by unfold nO; rw [show (some r).bind (pN k) = some x from h]
def lzO (o : Option (List UInt8)) : Lz × Option (List UInt8) := (⟨(nO o 8).1, (nO (nO o 8).2 8).1⟩, (nO (nO o 8).2 8).2)
theorem lzO_steps : Steps lzO pLz := by
  intro o
  cases o with
  | none => exact ⟨rfl, fun x h => by cases h⟩
  | some r =>
    show (lzO (some r)).2 = (pLz r).map _ ∧ ∀ x, pLz r = some x → _
    unfold lzO pLz
    cases h1 : pN 8 r with
    | none => rw [nO_no h1]; exact ⟨rfl, fun x h => by cases h⟩
    | some a =>
      rw [nO_yes h1]
      simp only [Option.bind_some]
      cases h2 : pN 8 a.2 with
      | none => rw [nO_no h2]; exact ⟨rfl, fun x h => by cases h⟩
      | some b => rw [nO_yes h2]; exact ⟨rfl, fun x h => by injection h with h; rw [← h]⟩
def stO (o : Option (List UInt8)) : St × Option (List UInt8) := (rawS (nO o 8).1 (nO (nO o 8).2 8).1 (nO (nO (nO o 8).2 8).2 8).1, (nO (nO (nO o 8).2 8).2 8).2)
theorem stO_steps : Steps stO pSt := by
  intro o
  cases o with
  | none => exact ⟨rfl, fun x h => by cases h⟩
  | some r =>
    show (stO (some r)).2 = (pSt r).map _ ∧ ∀ x, pSt r = some x → _
    unfold stO pSt
    cases h1 : pN 8 r with
    | none => rw [nO_no h1]; exact ⟨rfl, fun x h => by cases h⟩
    | some a =>
      rw [nO_yes h1]
      simp only [Option.bind_some]
      cases h2 : pN 8 a.2 with
      | none => rw [nO_no h2]; exact ⟨rfl, fun x h => by cases h⟩
      | some b =>
        rw [nO_yes h2]
        simp only [Option.bind_some]
        cases h3 : pN 8 b.2 with
        | none => rw [nO_no h3]; exact ⟨rfl, fun x h => by cases h⟩
        | some d => rw [nO_yes h3]; exact ⟨rfl, fun x h => by injection h with h; rw [← h]⟩

/-- a call that reads off a cursor -/
def RetO (w : World) (g : Nat) (A : Option Addr) (c : Nat) (bs : List UInt8) (v : Value) (o : Option (List UInt8)) (e : Ending) (w' : World) : Prop := e = .returned v ∧ w.grownBy w' (some g) ∧ CurO w' g A c bs o

set_option maxHeartbeats 2000000 in
theorem rlz_calls (g : Nat) (A : Option Addr) (c : Nat) (bs : List UInt8) (o : Option (List UInt8)) (w : World) (hc : CurO w g A c bs o) (hA : ∀ ad, A = some ad → ad.block < w.heap.size) (hl : bs.length ≤ 1000000) :
    Calls Tryd.prog 114 #[.pointer (some ⟨g, 0, none⟩)] w (RetO w g A c bs (.agg (lzV (lzO o).1)) (lzO o).2) := by
  have HC := Lib.hid hc
  have HA := Lib.hid hA
  have HN : Hid (∀ W o, CurO W g A c bs o → Calls Tryd.prog 74 #[.pointer (some ⟨g, 0, none⟩), .int .i64 8] W (fun e w' => e = .returned (.int .u64 ((nO o 8).1 : Nat)) ∧ W.grownBy w' (some g) ∧ CurO w' g A c bs (nO o 8).2)) := fun W o h => onum_calls g A c bs o 8 W h hl rfl
  have HF : Hid (lzO o = (⟨(nO o 8).1, (nO (nO o 8).2 8).1⟩, (nO (nO o 8).2 8).2)) := rfl
  rw [HF.out]
  clear hc hA
  go_enter Tryd.func114, Tryd.ntmps114
  go_wp2_with (first
    | ((with_reducible show wpList _ _ _ ({ dst := some 2, op := Op.alloc 64, type := _, pos := _, after := _, guard := _ } :: _) _ _); refine alA _ rfl 64 rfl _ _ zero_lease ?_; intro g2 w2 hg hs1 k1 e1; have Z2 := Lib.hid k1; have C2 := Lib.hid (HC.out.ext e1); have M2 := Lib.hid (mv_ext e1 (some g)); have G2 := Lib.hid (Nat.le_of_eq hg); clear hg hs1 k1 e1)
    | ((with_reducible show wpList _ _ _ ({ dst := some 3, op := Op.alloc 64, type := _, pos := _, after := _, guard := _ } :: _) _ _); refine alA _ rfl 64 rfl _ _ zero_lease ?_; intro g3 w3 hg hs1 k1 e1; have Y3 := Lib.hid k1; have Z3 := Lib.hid (Z2.out.ext e1); have C3 := Lib.hid (C2.out.ext e1); have M3 := Lib.hid (mv_new M2.out (mv_ext e1 none) (fun k hk => by cases hk)); have G3 := Lib.hid (show w.heap.size ≤ g3 ∧ g2 < g3 from ⟨by have := M2.out.size; omega, by have := Z2.out.lt; omega⟩); clear hg hs1 k1 e1))
  refine (HN.out _ _ C3.out).mono ?_
  rintro e w4 ⟨rfl, q4, c4⟩
  have K4 : Hid (g ≠ g2 ∧ g ≠ g3) := ⟨by have := HC.out.lt; have := G2.out; omega, by have := HC.out.lt; have := G3.out; omega⟩
  have C4 := Lib.hid c4
  have M4 := Lib.hid (M3.out.trans q4)
  have Y4 := Lib.hid (Y3.out.grown q4 (by have := K4.out.2; intro hh; injection hh; omega))
  have Z4 := Lib.hid (Z3.out.grown q4 (by have := K4.out.1; intro hh; injection hh; omega))
  clear q4 c4
  have hv1 := nO_lt o 8
  generalize nO o 8 = N1 at *
  obtain ⟨v1, o1⟩ := N1
  dsimp only at *
  go_wp2_with (first
    | ((with_reducible show wpList _ _ _ ({ dst := none, op := Op.store 22 (.tmp 6) _, type := _, pos := _, after := _, guard := _ } :: _) _ _); refine stF _ rfl 22 _ _ rfl g3 0 (.int .u64 v1) _ _ rfl rfl Y4.out (by show 0 < 2; decide) size_u64 rfl ?_; intro w5 hs k5 q5; have Y5 := Lib.hid (show Arr w5 g3 64 (lzV ⟨v1, 0⟩) from k5); have Z5 := Lib.hid (Z4.out.grown q5 (by have := G3.out.2; intro hh; injection hh; omega)); have M5 := Lib.hid (mv_new M4.out q5 (fun k hk => by injection hk with hk; have := G3.out.1; omega)); have C5 := Lib.hid (C4.out.keep q5 (by have := K4.out.2; intro hh; injection hh; omega) (fun ad ha hh => by injection hh with hh; have := HA.out ad ha; have := G3.out.1; omega)); clear hs k5 q5))
  refine (HN.out _ _ C5.out).mono ?_
  rintro e w6 ⟨rfl, q4, c4⟩
  have C6 := Lib.hid c4
  have M6 := Lib.hid (M5.out.trans q4)
  have Y6 := Lib.hid (Y5.out.grown q4 (by have := K4.out.2; intro hh; injection hh; omega))
  have Z6 := Lib.hid (Z5.out.grown q4 (by have := K4.out.1; intro hh; injection hh; omega))
  clear q4 c4
  have hv2 := nO_lt o1 8
  generalize nO o1 8 = N2 at *
  obtain ⟨v2, o2⟩ := N2
  dsimp only at *
  go_wp2_with (first
    | ((with_reducible show wpList _ _ _ ({ dst := none, op := Op.store 22 (.tmp 9) _, type := _, pos := _, after := _, guard := _ } :: _) _ _); refine stF _ rfl 22 _ _ rfl g3 1 (.int .u64 v2) _ _ rfl rfl Y6.out (by show 1 < 2; decide) size_u64 rfl ?_; intro w7 hs k5 q5; have Y7 := Lib.hid (show Arr w7 g3 64 (lzV ⟨v1, v2⟩) from k5); have Z7 := Lib.hid (Z6.out.grown q5 (by have := G3.out.2; intro hh; injection hh; omega)); have M7 := Lib.hid (mv_new M6.out q5 (fun k hk => by injection hk with hk; have := G3.out.1; omega)); have C7 := Lib.hid (C6.out.keep q5 (by have := K4.out.2; intro hh; injection hh; omega) (fun ad ha hh => by injection hh with hh; have := HA.out ad ha; have := G3.out.1; omega)); clear hs k5 q5)
    | ((with_reducible show wpList _ _ _ ({ dst := some 10, op := Op.load 64 _, type := _, pos := _, after := _, guard := _ } :: _) _ _); refine ldA _ rfl 64 64 _ rfl g3 rfl _ _ Y7.out Tryd.underlying64 rfl size_lease ?_)
    | ((with_reducible show wpList _ _ _ ({ dst := none, op := Op.store 64 (Operand.tmp 2) _, type := _, pos := _, after := _, guard := _ } :: _) _ _); refine stA _ rfl 64 64 _ _ rfl g2 _ (lzV ⟨v1, v2⟩) rfl rfl Z7.out size_lease rfl (lzV_one _) ?_; intro w8 hs k6 q6; have Z8 := Lib.hid k6; have M8 := Lib.hid (mv_new M7.out q6 (fun k hk => by injection hk with hk; have := G2.out; omega)); have C8 := Lib.hid (C7.out.keep q6 (by have := K4.out.1; intro hh; injection hh; omega) (fun ad ha hh => by injection hh with hh; have := HA.out ad ha; have := G2.out; omega)); clear hs k6 q6))
  exact ret_row Tryd.results114 g2 _ _ _ rfl Z8.out Tryd.underlying64 rfl size_lease ⟨rfl, M8.out, C8.out⟩
end Go.Proofs.YtkbjnlbbfapgdaaDoor

namespace Go.Proofs.YtkbjnlbbfapgdaaDoor
open Go.RowKit

theorem Steps.no {α : Type} {F : Option (List UInt8) → α × Option (List UInt8)} {p : Rdr α} (h : Steps F p) {r : List UInt8} (hp : p r = none) : (F (some r)).2 = none := by
  rw [(h (some r)).1]; show (p r).map _ = none; rw [hp]; rfl
theorem Steps.yes {α : Type} {F : Option (List UInt8) → α × Option (List UInt8)} {p : Rdr α} (h : Steps F p) {r : List UInt8} {x : α × List UInt8} (hp : p r = some x) : F (some r) = (x.1, some x.2) := by
  obtain ⟨h1, h2⟩ := h (some r)
  refine Prod.ext (h2 x hp) ?_
  rw [h1]; show (p r).map _ = _; rw [hp]; rfl
theorem Steps.none_ {α : Type} {F : Option (List UInt8) → α × Option (List UInt8)} {p : Rdr α} (h : Steps F p) : (F none).2 = none := by rw [(h none).1]; rfl
/-- what a list's loop has read, and what is to come -/
def LsI {α : Type} (p : Rdr α) (n : Nat) (o : Option (List UInt8)) (B : Nat) (k : Nat) (xs : List α) (oo : Option (List UInt8)) : Prop :=
  xs.length = k ∧ k ≤ n ∧ o.bind (pR p n) = (oo.bind (pR p (n - k))).map (fun y => (xs ++ y.1, y.2)) ∧ (oo = none → xs = []) ∧ ∀ r, oo = some r → k + r.length ≤ B
section lsi
variable {α : Type} {p : Rdr α} {n : Nat} {o oo : Option (List UInt8)} {B k : Nat} {xs : List α} {enc : α → List UInt8} {ok : α → Prop}
theorem LsI.start (h : ∀ r, o = some r → r.length ≤ B) : LsI p n o B 0 [] o := by
  refine ⟨rfl, Nat.zero_le _, ?_, fun _ => rfl, fun r hr => by have := h r hr; omega⟩
  cases o.bind (pR p n) with
  | none => simp
  | some x => simp
theorem LsI.fail (h : LsI p n o B k xs oo) (hk : k < n) (hp : oo.bind p = none) : rO p n o = ([], none) := by
  unfold rO
  have h1 : oo.bind (pR p (n - k)) = none := by
    cases oo with
    | none => rfl
    | some r =>
      obtain ⟨m, hm⟩ : ∃ m, n - k = m + 1 := ⟨n - k - 1, by omega⟩
      rw [hm]
      show (p r).bind _ = none
      rw [show p r = none from hp]
      rfl
  rw [h.2.2.1, h1]
  rfl
theorem LsI.next (C : Cod p enc ok) (hne : ∀ x, 0 < (enc x).length) {r : List UInt8} {x : α × List UInt8} (h : LsI p n o B k xs (some r)) (hk : k < n) (hp : p r = some x) : LsI p n o B (k + 1) (xs ++ [x.1]) (some x.2) := by
  obtain ⟨h1, h2, h3, h4, h5⟩ := h
  refine ⟨by simp [h1], hk, ?_, (fun h => by cases h), fun r' hr => ?_⟩
  · rw [h3]
    obtain ⟨m, hm⟩ : ∃ m, n - k = m + 1 := ⟨n - k - 1, by omega⟩
    rw [hm, show n - (k + 1) = m by omega]
    show ((p r).bind _).map _ = _
    rw [hp]
    simp only [Option.bind_some]
    cases pR p m x.2 with
    | none => rfl
    | some y => simp
  · injection hr with hr
    subst hr
    have h6 := h5 r rfl
    have h7 := congrArg List.length (C.inv _ _ _ hp).1
    have h8 := hne x.1
    rw [List.length_append] at h7
    omega
theorem LsI.done (h : LsI p n o B n xs oo) : rO p n o = (xs, oo) := by
  obtain ⟨h1, h2, h3, h4, h5⟩ := h
  unfold rO
  rw [h3, Nat.sub_self]
  cases oo with
  | none => rw [h4 rfl]; rfl
  | some r => simp [pR]
theorem LsI.le (h : LsI p n o B k xs oo) (hB : B ≤ 1000000) : k ≤ 1000000 := by
  obtain ⟨h1, h2, h3, h4, h5⟩ := h
  cases oo with
  | none => rw [h4 rfl] at h1; simp at h1; omega
  | some r => have := h5 r rfl; omega
end lsi
theorem row_apart {w : World} {g : Nat} {base : Nat} {e : TypeId} {size : Nat} {A : Option Addr} {n c : Nat} {xs : List Value} (h : OwnV w base e size A n c xs) (hg : g < base) : some g ≠ blk A := fun he => by
  have := (h.base_ g he.symm).1; omega

set_option maxHeartbeats 4000000 in
theorem rst_calls (g : Nat) (A : Option Addr) (c : Nat) (bs : List UInt8) (o : Option (List UInt8)) (w : World) (hc : CurO w g A c bs o) (hA : ∀ ad, A = some ad → ad.block < w.heap.size) (hl : bs.length ≤ 1000000) (hLk : ∀ W, w.grownBy W (some g) → Laid W) :
    Calls Tryd.prog 116 #[.pointer (some ⟨g, 0, none⟩)] w (RetO w g A c bs (.agg (stV (stO o).1)) (stO o).2) := by
  have HC := Lib.hid hc
  have HA := Lib.hid hA
  have HLK := Lib.hid hLk
  have HN : Hid (∀ W o, CurO W g A c bs o → Calls Tryd.prog 74 #[.pointer (some ⟨g, 0, none⟩), .int .i64 8] W (fun e w' => e = .returned (.int .u64 ((nO o 8).1 : Nat)) ∧ W.grownBy w' (some g) ∧ CurO w' g A c bs (nO o 8).2)) := fun W o h => onum_calls g A c bs o 8 W h hl rfl
  have HF : Hid (stO o = (rawS (nO o 8).1 (nO (nO o 8).2 8).1 (nO (nO (nO o 8).2 8).2 8).1, (nO (nO (nO o 8).2 8).2 8).2)) := rfl
  rw [HF.out]
  clear hc hA hLk
  go_enter Tryd.func116, Tryd.ntmps116
  go_wp2_with (first
    | ((with_reducible show wpList _ _ _ ({ dst := some 2, op := Op.alloc 70, type := _, pos := _, after := _, guard := _ } :: _) _ _); refine alA _ rfl 70 rfl _ _ zero_stmt ?_; intro g2 w2 hg hs1 k1 e1; have Z2 := Lib.hid k1; have C2 := Lib.hid (HC.out.ext e1); have M2 := Lib.hid (mv_ext e1 (some g)); have G2 := Lib.hid (Nat.le_of_eq hg); clear hg hs1 k1 e1)
    | ((with_reducible show wpList _ _ _ ({ dst := some 3, op := Op.alloc 70, type := _, pos := _, after := _, guard := _ } :: _) _ _); refine alA _ rfl 70 rfl _ _ zero_stmt ?_; intro g3 w3 hg hs1 k1 e1; have Y3 := Lib.hid k1; have Z3 := Lib.hid (Z2.out.ext e1); have C3 := Lib.hid (C2.out.ext e1); have M3 := Lib.hid (mv_new M2.out (mv_ext e1 none) (fun k hk => by cases hk)); have G3 := Lib.hid (show w.heap.size ≤ g3 ∧ g2 < g3 from ⟨by have := M2.out.size; omega, by have := Z2.out.lt; omega⟩); clear hg hs1 k1 e1))
  have K4 : Hid (g ≠ g2 ∧ g ≠ g3) := ⟨by have := HC.out.lt; have := G2.out; omega, by have := HC.out.lt; have := G3.out; omega⟩
  refine (HN.out _ _ C3.out).mono ?_
  rintro e w4 ⟨rfl, q4, c4⟩
  have C4 := Lib.hid c4
  have M4 := Lib.hid (M3.out.trans q4)
  have Y4 := Lib.hid (Y3.out.grown q4 (by have := K4.out.2; intro hh; injection hh; omega))
  have Z4 := Lib.hid (Z3.out.grown q4 (by have := K4.out.1; intro hh; injection hh; omega))
  clear q4 c4
  have hv1 := nO_lt o 8
  generalize nO o 8 = N1 at *
  obtain ⟨v1, o1⟩ := N1
  dsimp only at *
  go_wp2_with (first
    | ((with_reducible show wpList _ _ _ ({ dst := none, op := Op.store 22 (.tmp 6) _, type := _, pos := _, after := _, guard := _ } :: _) _ _); refine stF _ rfl 22 _ _ rfl g3 2 (.int .u64 v1) _ _ rfl rfl Y4.out (by show 2 < 6; decide) size_u64 rfl ?_; intro w5 hs k5 q5; have Y5 := Lib.hid (show Arr w5 g3 70 (stV (⟨ByteArray.empty, 0, v1, 0, 0, 0⟩ : St)) from k5); have Z5 := Lib.hid (Z4.out.grown q5 (by have := G3.out.2; intro hh; injection hh; omega)); have M5 := Lib.hid (mv_new M4.out q5 (fun k hk => by injection hk with hk; have := G3.out.1; omega)); have C5 := Lib.hid (C4.out.keep q5 (by have := K4.out.2; intro hh; injection hh; omega) (fun ad ha hh => by injection hh with hh; have := HA.out ad ha; have := G3.out.1; omega)); clear hs k5 q5))
  refine (HN.out _ _ C5.out).mono ?_
  rintro e w6 ⟨rfl, q4, c4⟩
  have C6 := Lib.hid c4
  have M6 := Lib.hid (M5.out.trans q4)
  have Y6 := Lib.hid (Y5.out.grown q4 (by have := K4.out.2; intro hh; injection hh; omega))
  have Z6 := Lib.hid (Z5.out.grown q4 (by have := K4.out.1; intro hh; injection hh; omega))
  clear q4 c4
  have hv2 := nO_lt o1 8
  generalize nO o1 8 = N2 at *
  obtain ⟨v2, o2⟩ := N2
  dsimp only at *
  go_wp2_with (first
    | ((with_reducible show wpList _ _ _ ({ dst := none, op := Op.store 22 (.tmp 9) _, type := _, pos := _, after := _, guard := _ } :: _) _ _); refine stF _ rfl 22 _ _ rfl g3 3 (.int .u64 v2) _ _ rfl rfl Y6.out (by show 3 < 6; decide) size_u64 rfl ?_; intro w7 hs k5 q5; have Y7 := Lib.hid (show Arr w7 g3 70 (stV (⟨ByteArray.empty, 0, v1, v2, 0, 0⟩ : St)) from k5); have Z7 := Lib.hid (Z6.out.grown q5 (by have := G3.out.2; intro hh; injection hh; omega)); have M7 := Lib.hid (mv_new M6.out q5 (fun k hk => by injection hk with hk; have := G3.out.1; omega)); have C7 := Lib.hid (C6.out.keep q5 (by have := K4.out.2; intro hh; injection hh; omega) (fun ad ha hh => by injection hh with hh; have := HA.out ad ha; have := G3.out.1; omega)); clear hs k5 q5))
  refine (HN.out _ _ C7.out).mono ?_
  rintro e w8 ⟨rfl, q4, c4⟩
  have C8 := Lib.hid c4
  have M8 := Lib.hid (M7.out.trans q4)
  have Y8 := Lib.hid (Y7.out.grown q4 (by have := K4.out.2; intro hh; injection hh; omega))
  have Z8 := Lib.hid (Z7.out.grown q4 (by have := K4.out.1; intro hh; injection hh; omega))
  clear q4 c4
  have hv3 := nO_lt o2 8
  generalize nO o2 8 = N3 at *
  obtain ⟨v3, o3⟩ := N3
  dsimp only at *
  go_wp2_with (first
    | ((with_reducible show wpList _ _ _ ({ dst := none, op := Op.store 22 (.tmp 12) _, type := _, pos := _, after := _, guard := _ } :: _) _ _); refine stF _ rfl 22 _ _ rfl g3 4 (.int .u64 v3) _ _ rfl rfl Y8.out (by show 4 < 6; decide) size_u64 rfl ?_; intro w9 hs k5 q5; have Y9 := Lib.hid (show Arr w9 g3 70 (stV (⟨ByteArray.empty, 0, v1, v2, v3, 0⟩ : St)) from k5); have Z9 := Lib.hid (Z8.out.grown q5 (by have := G3.out.2; intro hh; injection hh; omega)); have M9 := Lib.hid (mv_new M8.out q5 (fun k hk => by injection hk with hk; have := G3.out.1; omega)); have C9 := Lib.hid (C8.out.keep q5 (by have := K4.out.2; intro hh; injection hh; omega) (fun ad ha hh => by injection hh with hh; have := HA.out ad ha; have := G3.out.1; omega)); clear hs k5 q5; obtain ⟨z0, z1, z2, z3, z4, z5⟩ := st_cells Y9.out)
    | (go_at_call 64; refine (due_calls v1 v3 _ hv1 hv3 (HLK.out _ M9.out)).mono ?_; rintro e w10 ⟨rfl, rfl⟩; clear z0 z1 z2 z3 z4 z5)
    | ((with_reducible show wpList _ _ _ ({ dst := none, op := Op.store 22 (.tmp 21) _, type := _, pos := _, after := _, guard := _ } :: _) _ _); refine stF _ rfl 22 _ _ rfl g3 5 (.int .u64 (dueV v1 v3)) _ _ rfl rfl Y9.out (by show 5 < 6; decide) size_u64 rfl ?_; intro w11 hs k5 q5; have Y11 := Lib.hid (show Arr w11 g3 70 (stV (rawS v1 v2 v3)) from k5); have Z11 := Lib.hid (Z9.out.grown q5 (by have := G3.out.2; intro hh; injection hh; omega)); have M11 := Lib.hid (mv_new M9.out q5 (fun k hk => by injection hk with hk; have := G3.out.1; omega)); have C11 := Lib.hid (C9.out.keep q5 (by have := K4.out.2; intro hh; injection hh; omega) (fun ad ha hh => by injection hh with hh; have := HA.out ad ha; have := G3.out.1; omega)); clear hs k5 q5)
    | ((with_reducible show wpList _ _ _ ({ dst := some 22, op := Op.load 70 _, type := _, pos := _, after := _, guard := _ } :: _) _ _); refine ldA _ rfl 70 70 _ rfl g3 rfl _ _ Y11.out Tryd.underlying70 rfl size_stmt ?_)
    | ((with_reducible show wpList _ _ _ ({ dst := none, op := Op.store 70 (Operand.tmp 2) _, type := _, pos := _, after := _, guard := _ } :: _) _ _); refine stA _ rfl 70 70 _ _ rfl g2 _ (stV (rawS v1 v2 v3)) rfl rfl Z11.out size_stmt rfl (stV_one _) ?_; intro w12 hs k6 q6; have Z12 := Lib.hid k6; have M12 := Lib.hid (mv_new M11.out q6 (fun k hk => by injection hk with hk; have := G2.out; omega)); have C12 := Lib.hid (C11.out.keep q6 (by have := K4.out.1; intro hh; injection hh; omega) (fun ad ha hh => by injection hh with hh; have := HA.out ad ha; have := G2.out; omega)); clear hs k6 q6))
  exact ret_row Tryd.results116 g2 _ _ _ rfl Z12.out Tryd.underlying70 rfl size_stmt ⟨rfl, M12.out, C12.out⟩

theorem lz_enc_len (x : Lz) : (encLz x).length = 16 := encLz_len x
theorem st_enc_len (x : St) : (encSt x).length = 24 := encSt_len x
set_option maxHeartbeats 4000000 in
theorem lsLz_calls (g : Nat) (A : Option Addr) (c : Nat) (bs : List UInt8) (o : Option (List UInt8)) (n : Nat) (w : World) (hc : CurO w g A c bs o) (hA : ∀ ad, A = some ad → ad.block < w.heap.size) (hl : bs.length ≤ 1000000) (hn : n < 18446744073709551616) :
    Calls Tryd.prog 113 #[.pointer (some ⟨g, 0, none⟩), .int .u64 n, .func (.func 114) #[] #[]] w (fun e w' => ∃ B d, e = .returned (.slice B (rO pLz n o).1.length d) ∧ OwnV w' w.heap.size 64 2 B (rO pLz n o).1.length d ((rO pLz n o).1.flatMap Lz.cs) ∧ w.grownBy w' (some g) ∧ CurO w' g A c bs (rO pLz n o).2) := by
  have HC := Lib.hid hc
  have HA := Lib.hid hA
  have HG : Hid (g < w.heap.size) := hc.lt
  have HR : Hid (∀ W o, CurO W g A c bs o → w.grownBy W (some g) → Calls Tryd.prog 114 #[.pointer (some ⟨g, 0, none⟩)] W (RetO W g A c bs (.agg (lzV (lzO o).1)) (lzO o).2)) := fun W o h hw => rlz_calls g A c bs o W h (fun ad ha => Nat.lt_of_lt_of_le (HA.out ad ha) hw.size) hl
  have HS : Hid (LsI pLz n o bs.length 0 [] o) := LsI.start (fun r hr => by subst hr; exact hc.le)
  obtain ⟨R, hR⟩ : ∃ R, R = rO pLz n o := ⟨_, rfl⟩
  have HRR := Lib.hid hR
  rw [← hR]
  clear hc hA hR
  have eg : ∀ args w, (callFunc 114 args).run Tryd.prog w = .ok (.enter 114 args) w := enters_of Tryd.func114 (by kernel_rfl) rfl
  go_enter Tryd.func113, Tryd.ntmps113
  go_wp2_with fail
  go_loopw [7, 10] (fun l i wr => ∃ (k : Nat) (xs : List Lz) (oo : Option (List UInt8)) (B : Option Addr) (d : Nat), i = .int .u64 k ∧ l = .slice B xs.length d ∧ LsI pLz n o bs.length k xs oo ∧ OwnV wr w.heap.size 64 2 B xs.length d (xs.flatMap Lz.cs) ∧ w.grownBy wr (some g) ∧ CurO wr g A c bs oo) (fun _ i _ => n - (intOf i).toNat)
  case atStart => exact ⟨0, [], o, none, 0, rfl, rfl, HS.out, OwnV.nil _ _ _ _, World.grownBy.refl _ _, HC.out⟩
  case round =>
    obtain ⟨k, xs, oo, B, d, rfl, rfl, hI, hO, hM, hQ⟩ := hrel
    have HI := Lib.hid hI
    have HO := Lib.hid hO
    have HM := Lib.hid hM
    have HQ := Lib.hid hQ
    have hkl := hI.le hl
    have hxl : xs.length ≤ 1000000 := by have := hI.1; omega
    have hkn := hI.2.1
    clear hI hO hM hQ
    by_cases hlt : k < n
    · have k1 : (k : Int) < (n : Int) := by omega
      have uw : IntKind.u64.wrap ((k : Int) + 1) = (k : Int) + 1 := IntWalk.u64_in _ (by omega)
      have HRC := Lib.hid (HR.out wr oo HQ.out HM.out)
      cases hp : oo.bind pLz with
      | none =>
        have HN2 : Hid ((lzO oo).2 = none) := by show _ = _; rw [(lzO_steps oo).1, hp]; rfl
        have HRF : Hid (R = ([], none)) := by show _ = _; rw [HRR.out]; exact HI.out.fail hlt hp
        clear hp
        generalize lzO oo = X at *
        obtain ⟨x, o2⟩ := X
        dsimp only at *
        obtain rfl : o2 = none := HN2.out
        go_wp2_with (first
          | (go_at_fn 114; refine HRC.out.mono ?_; rintro e w2 ⟨rfl, q2, c2⟩; have C2 := Lib.hid c2; have M2 := Lib.hid (HM.out.trans q2); clear q2 c2)
          | ((with_reducible show wpList _ _ _ ({ dst := some 8, op := Op.alloc 64, type := _, pos := _, after := _, guard := _ } :: _) _ _); refine alA _ rfl 64 rfl _ _ zero_lease ?_; intro g8 w3 hg hs1 k1' e1; have Z3 := Lib.hid k1'; have C3 := Lib.hid (C2.out.ext e1); have M3 := Lib.hid (mv_new M2.out (mv_ext e1 none) (fun k hk => by cases hk)); have G3 := Lib.hid (show w.heap.size ≤ g8 from by have := M2.out.size; omega); clear hg hs1 k1' e1)
          | ((with_reducible show wpList _ _ _ ({ dst := none, op := Op.store 64 (Operand.tmp 8) _, type := _, pos := _, after := _, guard := _ } :: _) _ _); refine stA _ rfl 64 64 _ _ rfl g8 _ (lzV x) rfl rfl Z3.out size_lease rfl (lzV_one _) ?_; intro w4 hs k6 q6; have Z4 := Lib.hid k6; have M4 := Lib.hid (mv_new M3.out q6 (fun k hk => by injection hk with hk; have := G3.out; omega)); have C4 := Lib.hid (C3.out.keep q6 (by have := HG.out; have := G3.out; intro hh; injection hh; omega) (fun ad ha hh => by injection hh with hh; have := HA.out ad ha; have := G3.out; omega)); clear hs k6 q6)
          | (go_at_call 77; refine (oerr_calls g A c bs none _ C4.out).mono ?_; rintro e w5 ⟨⟨er, rfl, her⟩, rfl⟩; have her2 : (er != 0) = true := her))
        go_ret
        rw [HRF.out]
        exact ⟨none, 0, rfl, OwnV.nil _ _ _ _, M4.out, C4.out⟩
      | some X0 =>
        obtain ⟨r, rfl⟩ : ∃ r, oo = some r := by
          cases oo with
          | none => cases hp
          | some r => exact ⟨r, rfl⟩
        have HFX : Hid (lzO (some r) = (X0.1, some X0.2)) := lzO_steps.yes hp
        have HI2 : Hid (LsI pLz n o bs.length (k + 1) (xs ++ [X0.1]) (some X0.2)) := HI.out.next cod_Lz (fun x => by rw [lz_enc_len]; decide) hlt hp
        rw [HFX.out] at HRC
        clear hp HFX
        obtain ⟨x, r2⟩ := X0
        dsimp only at *
        go_wp2_with (first
          | (go_at_fn 114; refine HRC.out.mono ?_; rintro e w2 ⟨rfl, q2, c2⟩; have C2 := Lib.hid c2; have M2 := Lib.hid (HM.out.trans q2); have P2 := Lib.hid (HO.out.keep q2 (.inr (fun he => row_apart HO.out HG.out he.symm))); clear q2 c2)
          | ((with_reducible show wpList _ _ _ ({ dst := some 8, op := Op.alloc 64, type := _, pos := _, after := _, guard := _ } :: _) _ _); refine alA _ rfl 64 rfl _ _ zero_lease ?_; intro g8 w3 hg hs1 k1' e1; have Z3 := Lib.hid k1'; have P3 := Lib.hid (P2.out.ext e1); have C3 := Lib.hid (C2.out.ext e1); have M3 := Lib.hid (mv_new M2.out (mv_ext e1 none) (fun k hk => by cases hk)); have G3 := Lib.hid (show w.heap.size ≤ g8 ∧ w2.heap.size ≤ g8 from ⟨by have := M2.out.size; omega, by omega⟩); clear hg hs1 k1' e1)
          | ((with_reducible show wpList _ _ _ ({ dst := none, op := Op.store 64 (Operand.tmp 8) _, type := _, pos := _, after := _, guard := _ } :: _) _ _); refine stA _ rfl 64 64 _ _ rfl g8 _ (lzV x) rfl rfl Z3.out size_lease rfl (lzV_one _) ?_; intro w4 hs k6 q6; have Z4 := Lib.hid k6; have P4 := Lib.hid (P3.out.keep q6 (.inr (fun he => by have := P2.out.base_ g8 he; have := G3.out.2; omega))); have M4 := Lib.hid (mv_new M3.out q6 (fun k hk => by injection hk with hk; have := G3.out.1; omega)); have C4 := Lib.hid (C3.out.keep q6 (by have := HG.out; have := G3.out.1; intro hh; injection hh; omega) (fun ad ha hh => by injection hh with hh; have := HA.out ad ha; have := G3.out.1; omega)); obtain ⟨y0, y1⟩ := lz_cells k6; clear hs k6 q6)
          | (go_at_call 77; refine (oerr_calls g A c bs (some r2) _ C4.out).mono ?_; rintro e w5 ⟨⟨er, rfl, her⟩, rfl⟩; have her2 : (er != 0) = false := her)
          | (at_builtin; refine appV _ rfl (.tmp 18) (.tmp 20) 23 rfl 64 (.agg #[.int .u64 0, .int .u64 0]) 2 16 Tryd.underlying23 info_lease rfl (by decide) w.heap.size B xs.length d (xs.flatMap Lz.cs) rfl ⟨w4.heap.size, 0, none⟩ 1 1 (Lz.cs x) rfl ?_ (P4.out.ext ((Ext.refl _).alloc _)) rfl (cells_new w4 _ _) (by intro u hu; exact lz_one [x] u (by simpa using hu)) (by omega) (by omega) (by have := M4.out.size; simp; omega); intro B6 d6 w6 h6 g6 b6; have P6 := Lib.hid h6; have M6 := Lib.hid (mv_new (mv_new M4.out (mv_ext ((Ext.refl _).alloc _) none) (fun k hk => by cases hk)) g6 (fun k hk => (P4.out.base_ k hk).1)); have C6 := Lib.hid ((C4.out.ext ((Ext.refl _).alloc _)).keep g6 (row_apart P4.out HG.out) (fun ad ha => row_apart P4.out (HA.out ad ha))); clear h6 g6 b6 y0 y1))
        go_roundw
        case rel => exact ⟨k + 1, xs ++ [x], some r2, B6, d6, by go_num, by rw [List.length_append]; rfl, HI2.out, by rw [List.length_append, List.flatMap_append]; simpa using P6.out, M6.out, C6.out⟩
        case measure => simp [intOf]; omega
    · have k1 : ¬ (k : Int) < (n : Int) := by omega
      obtain rfl : k = n := by omega
      have HRF : Hid (R = (xs, oo)) := by show _ = _; rw [HRR.out]; exact HI.out.done
      go_wp2_with fail
      go_ret
      rw [HRF.out]
      exact ⟨B, d, rfl, HO.out, HM.out, HQ.out⟩

set_option maxHeartbeats 4000000 in
theorem lsSt_calls (g : Nat) (A : Option Addr) (c : Nat) (bs : List UInt8) (o : Option (List UInt8)) (n : Nat) (w : World) (hc : CurO w g A c bs o) (hA : ∀ ad, A = some ad → ad.block < w.heap.size) (hl : bs.length ≤ 1000000) (hn : n < 18446744073709551616) (hLk : ∀ W, w.grownBy W (some g) → Laid W) :
    Calls Tryd.prog 115 #[.pointer (some ⟨g, 0, none⟩), .int .u64 n, .func (.func 116) #[] #[]] w (fun e w' => ∃ B d, e = .returned (.slice B (rO pSt n o).1.length d) ∧ OwnV w' w.heap.size 70 6 B (rO pSt n o).1.length d ((rO pSt n o).1.flatMap St.cs) ∧ w.grownBy w' (some g) ∧ CurO w' g A c bs (rO pSt n o).2) := by
  have HC := Lib.hid hc
  have HA := Lib.hid hA
  have HG : Hid (g < w.heap.size) := hc.lt
  have HR : Hid (∀ W o, CurO W g A c bs o → w.grownBy W (some g) → Calls Tryd.prog 116 #[.pointer (some ⟨g, 0, none⟩)] W (RetO W g A c bs (.agg (stV (stO o).1)) (stO o).2)) := fun W o h hw => rst_calls g A c bs o W h (fun ad ha => Nat.lt_of_lt_of_le (HA.out ad ha) hw.size) hl (fun W' h' => hLk W' (hw.trans h'))
  have HS : Hid (LsI pSt n o bs.length 0 [] o) := LsI.start (fun r hr => by subst hr; exact hc.le)
  obtain ⟨R, hR⟩ : ∃ R, R = rO pSt n o := ⟨_, rfl⟩
  have HRR := Lib.hid hR
  rw [← hR]
  clear hc hA hR
  have eg : ∀ args w, (callFunc 116 args).run Tryd.prog w = .ok (.enter 116 args) w := enters_of Tryd.func116 (by kernel_rfl) rfl
  go_enter Tryd.func115, Tryd.ntmps115
  go_wp2_with fail
  go_loopw [7, 10] (fun l i wr => ∃ (k : Nat) (xs : List St) (oo : Option (List UInt8)) (B : Option Addr) (d : Nat), i = .int .u64 k ∧ l = .slice B xs.length d ∧ LsI pSt n o bs.length k xs oo ∧ OwnV wr w.heap.size 70 6 B xs.length d (xs.flatMap St.cs) ∧ w.grownBy wr (some g) ∧ CurO wr g A c bs oo) (fun _ i _ => n - (intOf i).toNat)
  case atStart => exact ⟨0, [], o, none, 0, rfl, rfl, HS.out, OwnV.nil _ _ _ _, World.grownBy.refl _ _, HC.out⟩
  case round =>
    obtain ⟨k, xs, oo, B, d, rfl, rfl, hI, hO, hM, hQ⟩ := hrel
    have HI := Lib.hid hI
    have HO := Lib.hid hO
    have HM := Lib.hid hM
    have HQ := Lib.hid hQ
    have hkl := hI.le hl
    have hxl : xs.length ≤ 1000000 := by have := hI.1; omega
    have hkn := hI.2.1
    clear hI hO hM hQ
    by_cases hlt : k < n
    · have k1 : (k : Int) < (n : Int) := by omega
      have uw : IntKind.u64.wrap ((k : Int) + 1) = (k : Int) + 1 := IntWalk.u64_in _ (by omega)
      have HRC := Lib.hid (HR.out wr oo HQ.out HM.out)
      cases hp : oo.bind pSt with
      | none =>
        have HN2 : Hid ((stO oo).2 = none) := by show _ = _; rw [(stO_steps oo).1, hp]; rfl
        have HRF : Hid (R = ([], none)) := by show _ = _; rw [HRR.out]; exact HI.out.fail hlt hp
        clear hp
        generalize stO oo = X at *
        obtain ⟨x, o2⟩ := X
        dsimp only at *
        obtain rfl : o2 = none := HN2.out
        go_wp2_with (first
          | (go_at_fn 116; refine HRC.out.mono ?_; rintro e w2 ⟨rfl, q2, c2⟩; have C2 := Lib.hid c2; have M2 := Lib.hid (HM.out.trans q2); clear q2 c2)
          | ((with_reducible show wpList _ _ _ ({ dst := some 8, op := Op.alloc 70, type := _, pos := _, after := _, guard := _ } :: _) _ _); refine alA _ rfl 70 rfl _ _ zero_stmt ?_; intro g8 w3 hg hs1 k1' e1; have Z3 := Lib.hid k1'; have C3 := Lib.hid (C2.out.ext e1); have M3 := Lib.hid (mv_new M2.out (mv_ext e1 none) (fun k hk => by cases hk)); have G3 := Lib.hid (show w.heap.size ≤ g8 from by have := M2.out.size; omega); clear hg hs1 k1' e1)
          | ((with_reducible show wpList _ _ _ ({ dst := none, op := Op.store 70 (Operand.tmp 8) _, type := _, pos := _, after := _, guard := _ } :: _) _ _); refine stA _ rfl 70 70 _ _ rfl g8 _ (stV x) rfl rfl Z3.out size_stmt rfl (stV_one _) ?_; intro w4 hs k6 q6; have Z4 := Lib.hid k6; have M4 := Lib.hid (mv_new M3.out q6 (fun k hk => by injection hk with hk; have := G3.out; omega)); have C4 := Lib.hid (C3.out.keep q6 (by have := HG.out; have := G3.out; intro hh; injection hh; omega) (fun ad ha hh => by injection hh with hh; have := HA.out ad ha; have := G3.out; omega)); clear hs k6 q6)
          | (go_at_call 77; refine (oerr_calls g A c bs none _ C4.out).mono ?_; rintro e w5 ⟨⟨er, rfl, her⟩, rfl⟩; have her2 : (er != 0) = true := her))
        go_ret
        rw [HRF.out]
        exact ⟨none, 0, rfl, OwnV.nil _ _ _ _, M4.out, C4.out⟩
      | some X0 =>
        obtain ⟨r, rfl⟩ : ∃ r, oo = some r := by
          cases oo with
          | none => cases hp
          | some r => exact ⟨r, rfl⟩
        have HFX : Hid (stO (some r) = (X0.1, some X0.2)) := stO_steps.yes hp
        have HI2 : Hid (LsI pSt n o bs.length (k + 1) (xs ++ [X0.1]) (some X0.2)) := HI.out.next cod_St (fun x => by rw [st_enc_len]; decide) hlt hp
        rw [HFX.out] at HRC
        clear hp HFX
        obtain ⟨x, r2⟩ := X0
        dsimp only at *
        go_wp2_with (first
          | (go_at_fn 116; refine HRC.out.mono ?_; rintro e w2 ⟨rfl, q2, c2⟩; have C2 := Lib.hid c2; have M2 := Lib.hid (HM.out.trans q2); have P2 := Lib.hid (HO.out.keep q2 (.inr (fun he => row_apart HO.out HG.out he.symm))); clear q2 c2)
          | ((with_reducible show wpList _ _ _ ({ dst := some 8, op := Op.alloc 70, type := _, pos := _, after := _, guard := _ } :: _) _ _); refine alA _ rfl 70 rfl _ _ zero_stmt ?_; intro g8 w3 hg hs1 k1' e1; have Z3 := Lib.hid k1'; have P3 := Lib.hid (P2.out.ext e1); have C3 := Lib.hid (C2.out.ext e1); have M3 := Lib.hid (mv_new M2.out (mv_ext e1 none) (fun k hk => by cases hk)); have G3 := Lib.hid (show w.heap.size ≤ g8 ∧ w2.heap.size ≤ g8 from ⟨by have := M2.out.size; omega, by omega⟩); clear hg hs1 k1' e1)
          | ((with_reducible show wpList _ _ _ ({ dst := none, op := Op.store 70 (Operand.tmp 8) _, type := _, pos := _, after := _, guard := _ } :: _) _ _); refine stA _ rfl 70 70 _ _ rfl g8 _ (stV x) rfl rfl Z3.out size_stmt rfl (stV_one _) ?_; intro w4 hs k6 q6; have Z4 := Lib.hid k6; have P4 := Lib.hid (P3.out.keep q6 (.inr (fun he => by have := P2.out.base_ g8 he; have := G3.out.2; omega))); have M4 := Lib.hid (mv_new M3.out q6 (fun k hk => by injection hk with hk; have := G3.out.1; omega)); have C4 := Lib.hid (C3.out.keep q6 (by have := HG.out; have := G3.out.1; intro hh; injection hh; omega) (fun ad ha hh => by injection hh with hh; have := HA.out ad ha; have := G3.out.1; omega)); obtain ⟨y0, y1, y2, y3, y4, y5⟩ := st_cells k6; clear hs k6 q6)
          | (go_at_call 77; refine (oerr_calls g A c bs (some r2) _ C4.out).mono ?_; rintro e w5 ⟨⟨er, rfl, her⟩, rfl⟩; have her2 : (er != 0) = false := her)
          | (at_builtin; refine appV _ rfl (.tmp 18) (.tmp 20) 24 rfl 70 (.agg #[.string ByteArray.empty, .int .u64 0, .int .u64 0, .int .u64 0, .int .u64 0, .int .u64 0]) 6 56 Tryd.underlying24 info_stmt rfl (by decide) w.heap.size B xs.length d (xs.flatMap St.cs) rfl ⟨w4.heap.size, 0, none⟩ 1 1 (St.cs x) rfl ?_ (P4.out.ext ((Ext.refl _).alloc _)) rfl (cells_new w4 _ _) (by intro u hu; exact st_one [x] u (by simpa using hu)) (by omega) (by omega) (by have := M4.out.size; simp; omega); intro B6 d6 w6 h6 g6 b6; have P6 := Lib.hid h6; have M6 := Lib.hid (mv_new (mv_new M4.out (mv_ext ((Ext.refl _).alloc _) none) (fun k hk => by cases hk)) g6 (fun k hk => (P4.out.base_ k hk).1)); have C6 := Lib.hid ((C4.out.ext ((Ext.refl _).alloc _)).keep g6 (row_apart P4.out HG.out) (fun ad ha => row_apart P4.out (HA.out ad ha))); clear h6 g6 b6 y0 y1 y2 y3 y4 y5))
        go_roundw
        case rel => exact ⟨k + 1, xs ++ [x], some r2, B6, d6, by go_num, by rw [List.length_append]; rfl, HI2.out, by rw [List.length_append, List.flatMap_append]; simpa using P6.out, M6.out, C6.out⟩
        case measure => simp [intOf]; omega
    · have k1 : ¬ (k : Int) < (n : Int) := by omega
      obtain rfl : k = n := by omega
      have HRF : Hid (R = (xs, oo)) := by show _ = _; rw [HRR.out]; exact HI.out.done
      go_wp2_with fail
      go_ret
      rw [HRF.out]
      exact ⟨B, d, rfl, HO.out, HM.out, HQ.out⟩

end Go.Proofs.YtkbjnlbbfapgdaaDoor

namespace Go.Proofs.YtkbjnlbbfapgdaaDoor
open Go.RowKit

section laws
variable {P : Program} {ops : Array Oper} {rest : List Oper} {o : Oper} {a : Act} {Q : Exit → Act → World → Prop}
/-- one cell of a row of the call's own, written -/
theorem stR (w : World) (hgd : o.guard = none) (t : TypeId) (x y : Operand) (ho : o.op = .store t x y) (g i : Nat) (v : Value) (base : Nat) (u : TypeId) (size n c : Nat) (xs : List Value) (hx : a.eval x = .pointer (some ⟨g, i, none⟩)) (hy : a.eval y = v)
    (H : OwnV w base u size (some ⟨g, 0, none⟩) n c xs) (hi : i < xs.length) (hs : (P.info? t).map (·.size) = some 1) (h1 : v.oneCell' = true)
    (h : ∀ w', w'.heap.size = w.heap.size → OwnV w' base u size (some ⟨g, 0, none⟩) n c (xs.set i v) → w.grownBy w' (some g) → wpList P ops Q rest (a.put o.dst undef) w') : wpList P ops Q (o :: rest) a w := by
  rcases H.2 with ⟨hv, _⟩ | ⟨g', cap, cur, hv, hb, hh, p1, p2, p3, p4⟩
  · injection hv with hA; cases hA
  · injection hv with hA _ hc
    injection hA with hA
    injection hA with hA
    subst hA hc
    have hl : i < cur.size := by
      have e := congrArg List.length p4
      rw [List.length_take, Array.length_toList] at e
      omega
    refine stF w hgd t x y ho g i v u cur hx hy hh hl hs h1 (fun w' hs' k' g' => h w' hs' ⟨by rw [List.length_set]; exact H.1, .inr ⟨g, c, cur.setIfInBounds i v, rfl, hb, k', p1, p2, by simpa using p3, ?_⟩⟩ g')
    rw [Array.toList_setIfInBounds, List.take_set, p4]
end laws

def aO (o : Option (List UInt8)) : Ac × Option (List UInt8) :=
  let t := tO o; let c := nO t.2 8; let u := nO c.2 8; let b := nO u.2 8; let n := nO b.2 2; let l := rO pLz n.1 n.2; let m := nO l.2 4; let s := rO pSt m.1 m.2
  (mkA t.1 c.1 u.1 b.1 l.1 s.1, s.2)
theorem tO_no {r : List UInt8} (h : pT r = none) : tO (some r) = ([], none) := by unfold tO; rw [show (some r).bind pT = none from h]
theorem tO_yes {r : List UInt8} {x : List UInt8 × List UInt8} (h : pT r = some x) : tO (some r) = (x.1, some x.2) := by unfold tO; rw [show (some r).bind pT = some x from h]
theorem rO_none {α : Type} (p : Rdr α) (n : Nat) : rO p n none = ([], none) := rfl
theorem rO_no {α : Type} {p : Rdr α} {n : Nat} {r : List UInt8} (h : pR p n r = none) : rO p n (some r) = ([], none) := by unfold rO; rw [show (some r).bind (pR p n) = none from h]
theorem rO_yes {α : Type} {p : Rdr α} {n : Nat} {r : List UInt8} {x : List α × List UInt8} (h : pR p n r = some x) : rO p n (some r) = (x.1, some x.2) := by unfold rO; rw [show (some r).bind (pR p n) = some x from h]
theorem aO_steps : Steps aO pA := by
  intro o
  cases o with
  | none => exact ⟨rfl, fun x h => by cases h⟩
  | some r =>
    show (aO (some r)).2 = (pA r).map _ ∧ ∀ x, pA r = some x → _
    unfold aO pA
    cases h1 : pT r with
    | none => simp only [tO_no h1, nO_none, rO_none]; exact ⟨rfl, fun x h => by cases h⟩
    | some t =>
    simp only [tO_yes h1, Option.bind_some]
    cases h2 : pN 8 t.2 with
    | none => simp only [nO_no h2, nO_none, rO_none]; exact ⟨rfl, fun x h => by cases h⟩
    | some c =>
    simp only [nO_yes h2, Option.bind_some]
    cases h3 : pN 8 c.2 with
    | none => simp only [nO_no h3, nO_none, rO_none]; exact ⟨rfl, fun x h => by cases h⟩
    | some u =>
    simp only [nO_yes h3, Option.bind_some]
    cases h4 : pN 8 u.2 with
    | none => simp only [nO_no h4, nO_none, rO_none]; exact ⟨rfl, fun x h => by cases h⟩
    | some b =>
    simp only [nO_yes h4, Option.bind_some]
    cases h5 : pN 2 b.2 with
    | none => simp only [nO_no h5, nO_none, rO_none]; exact ⟨rfl, fun x h => by cases h⟩
    | some n =>
    simp only [nO_yes h5, Option.bind_some]
    cases h6 : pR pLz n.1 n.2 with
    | none => simp only [rO_no h6, nO_none, rO_none]; exact ⟨rfl, fun x h => by cases h⟩
    | some l =>
    simp only [rO_yes h6, Option.bind_some]
    cases h7 : pN 4 l.2 with
    | none => simp only [nO_no h7, nO_none, rO_none]; exact ⟨rfl, fun x h => by cases h⟩
    | some m =>
    simp only [nO_yes h7, Option.bind_some]
    cases h8 : pR pSt m.1 m.2 with
    | none => simp only [rO_no h8]; exact ⟨rfl, fun x h => by cases h⟩
    | some s =>
    simp only [rO_yes h8, Option.bind_some]
    exact ⟨rfl, fun x h => by injection h with h; rw [← h]⟩
/-- how much is left at most -/
def LeO (B : Nat) (o : Option (List UInt8)) : Prop := ∀ r, o = some r → r.length ≤ B
theorem leO_n {B : Nat} {o : Option (List UInt8)} (h : LeO B o) (k : Nat) : LeO B (nO o k).2 := by
  intro r hr
  cases o with
  | none => cases hr
  | some q =>
    cases hp : pN k q with
    | none => rw [nO_no hp] at hr; cases hr
    | some x =>
      rw [nO_yes hp] at hr
      injection hr with hr
      have h1 := congrArg List.length ((cod_N k).inv _ _ _ hp).1
      have h2 := h q rfl
      rw [List.length_append] at h1
      subst hr; omega
theorem leO_t {B : Nat} {o : Option (List UInt8)} (h : LeO B o) : LeO B (tO o).2 := by
  intro r hr
  cases o with
  | none => cases hr
  | some q =>
    cases hp : pT q with
    | none => rw [tO_no hp] at hr; cases hr
    | some x =>
      rw [tO_yes hp] at hr
      injection hr with hr
      have h1 := congrArg List.length (cod_T.inv _ _ _ hp).1
      have h2 := h q rfl
      rw [List.length_append] at h1
      subst hr; omega
theorem rO_facts {α : Type} {p : Rdr α} {enc : α → List UInt8} {ok : α → Prop} (C : Cod p enc ok) {m : Nat} (hm : ∀ x, (enc x).length = m) {B : Nat} {o : Option (List UInt8)} (h : LeO B o) (n : Nat) : LeO B (rO p n o).2 ∧ (rO p n o).1.length * m ≤ B ∧ (rO p n o).1.length ≤ n ∧ ∀ x ∈ (rO p n o).1, ok x := by
  cases o with
  | none => exact ⟨(fun r hr => by cases hr), by simp [rO_none], by simp [rO_none], fun x hx => by cases hx⟩
  | some q =>
    cases hp : pR p n q with
    | none => rw [rO_no hp]; exact ⟨(fun r hr => by cases hr), by simp, by simp, fun x hx => by cases hx⟩
    | some x =>
      rw [rO_yes hp]
      obtain ⟨e, h3, h4⟩ := (cod_R C n).inv _ _ _ hp
      have h1 := congrArg List.length e
      have h2 := h q rfl
      rw [List.length_append, flatB_len hm] at h1
      exact ⟨fun r hr => by injection hr with hr; subst hr; omega, by show x.1.length * m ≤ B; omega, by show x.1.length ≤ n; omega, h4⟩
theorem tO_len (o : Option (List UInt8)) : (tO o).1.length < 256 := by
  cases o with
  | none => decide
  | some q =>
    cases hp : pT q with
    | none => rw [tO_no hp]; decide
    | some x => rw [tO_yes hp]; exact (cod_T.inv _ _ _ hp).2
theorem fixF_mem {ten : ByteArray} {i : Nat} {cl : List St} {s : St} (h : s ∈ fixF ten i cl) : ∃ k x, k < cl.length ∧ x ∈ cl ∧ s = fixS ten (i + k) x := by
  obtain ⟨k, hk, rfl⟩ := List.getElem_of_mem h
  have hk2 : k < cl.length := by rw [fixF_len] at hk; exact hk
  refine ⟨k, cl[k], hk2, List.getElem_mem hk2, ?_⟩
  have := fixF_get ten i cl k
  rw [List.getElem?_eq_getElem hk, List.getElem?_eq_getElem hk2] at this
  injection this
theorem aO_ok {o : Option (List UInt8)} (h : LeO 1000000 o) : (aO o).1.ok := by
  have h1 := leO_t h
  have e1 := tO_len o
  unfold aO
  generalize tO o = t at *
  have h2 := leO_n h1 8
  have e2 := nO_lt t.2 8
  dsimp only
  generalize nO t.2 8 = c at *
  have h3 := leO_n h2 8
  have e3 := nO_lt c.2 8
  generalize nO c.2 8 = u at *
  have h4 := leO_n h3 8
  have e4 := nO_lt u.2 8
  generalize nO u.2 8 = b at *
  have h5 := leO_n h4 2
  have e5 := nO_lt b.2 2
  generalize nO b.2 2 = n at *
  obtain ⟨h6, e6, e7, e8⟩ := rO_facts cod_Lz encLz_len h5 n.1
  generalize rO pLz n.1 n.2 = l at *
  have h7 := leO_n h6 4
  have e9 := nO_lt l.2 4
  generalize nO l.2 4 = m at *
  obtain ⟨h8, e10, e11, e12⟩ := rO_facts cod_St encSt_len h7 m.1
  generalize rO pSt m.1 m.2 = s at *
  have hsz : (⟨t.1.toArray⟩ : ByteArray).size = t.1.length := by simp [ByteArray.size]
  refine ⟨by show (⟨t.1.toArray⟩ : ByteArray).size ≤ _; omega, e2, e3, e4, by show s.1.length < _; omega, e8, ?_, by show l.1.length ≤ _; omega, by show (fixCl _ s.1).length ≤ _; rw [fixCl_len]; omega⟩
  intro x hx
  obtain ⟨k, y, hk, hy, rfl⟩ := fixF_mem hx
  obtain ⟨q0, q1, q2, q3⟩ := e12 y hy
  have hdue : y.due < 18446744073709551616 := by rw [q0]; exact (show dueV _ _ < 18446744073709551616 from by unfold dueV dueN; split <;> omega)
  refine ⟨by show 0 + k < _; omega, q1, q2, q3, hdue, by show (⟨t.1.toArray⟩ : ByteArray).size ≤ _; omega⟩

/-- statements, of which the first k have their names -/
def mixS (ten : ByteArray) (cl : List St) (k : Nat) : List St := (fixF ten 0 cl).take k ++ cl.drop k
theorem mixS_zero (ten : ByteArray) (cl : List St) : mixS ten cl 0 = cl := by simp [mixS]
theorem mixS_all (ten : ByteArray) (cl : List St) : mixS ten cl cl.length = fixCl ten cl := by
  unfold mixS fixCl
  rw [List.drop_of_length_le (Nat.le_refl _), List.take_of_length_le (by rw [fixF_len]; exact Nat.le_refl _), List.append_nil]
theorem set_flat {α : Type} {f : α → List Value} {m : Nat} (hm : ∀ x, (f x).length = m) (X Y : List α) (s : α) (j : Nat) (hj : j < m) (v : Value) : ((X ++ s :: Y).flatMap f).set (X.length * m + j) v = X.flatMap f ++ ((f s).set j v ++ Y.flatMap f) := by
  rw [List.flatMap_append, List.flatMap_cons, List.set_append, if_neg (by rw [flat_length hm]; omega), flat_length hm, show X.length * m + j - X.length * m = j by omega, List.set_append, if_pos (by rw [hm]; exact hj)]
theorem mixS_step {ten : ByteArray} {cl : List St} {k : Nat} (hk : k < cl.length) : ((mixS ten cl k).flatMap St.cs |>.set (k * 6) (.string ten) |>.set (k * 6 + 1) (.int .u64 k)) = (mixS ten cl (k + 1)).flatMap St.cs := by
  have hX : ((fixF ten 0 cl).take k).length = k := by rw [List.length_take, fixF_len]; omega
  have e1 : mixS ten cl k = (fixF ten 0 cl).take k ++ cl[k] :: cl.drop (k + 1) := by unfold mixS; rw [List.drop_eq_getElem_cons hk]
  have e2 : mixS ten cl (k + 1) = (fixF ten 0 cl).take k ++ fixS ten k cl[k] :: cl.drop (k + 1) := by
    unfold mixS
    have hk2 : k < (fixF ten 0 cl).length := by rw [fixF_len]; exact hk
    have h3 := fixF_get ten 0 cl k
    rw [List.getElem?_eq_getElem hk2, List.getElem?_eq_getElem hk, Option.map_some, Nat.zero_add] at h3
    injection h3 with h3
    rw [List.take_succ_eq_append_getElem hk2, h3]
    simp
  rw [e1, e2]
  generalize (fixF ten 0 cl).take k = X at *
  generalize cl.drop (k + 1) = Y at *
  generalize cl[k] = s at *
  have a1 := set_flat St.cs_len X Y s 0 (by decide) (.string ten)
  have a2 := set_flat St.cs_len X Y { s with ten := ten } 1 (by decide) (.int .u64 k)
  rw [hX] at a1 a2
  rw [Nat.add_zero] at a1
  rw [a1]
  rw [List.flatMap_append, List.flatMap_cons] at a2
  have e3 : (St.cs s).set 0 (.string ten) = St.cs { s with ten := ten } := rfl
  rw [e3, a2, List.flatMap_append, List.flatMap_cons]
  rfl
theorem mixS_len (ten : ByteArray) (cl : List St) {k : Nat} (hk : k ≤ cl.length) : (mixS ten cl k).length = cl.length := by
  unfold mixS; rw [List.length_append, List.length_take, fixF_len, List.length_drop]; omega

theorem size_strS : (Tryd.prog.info? 9).map (·.size) = some 1 := by kernel_rfl
end Go.Proofs.YtkbjnlbbfapgdaaDoor

namespace Go.Proofs.YtkbjnlbbfapgdaaDoor
open Go.RowKit

set_option maxHeartbeats 16000000 in
theorem rac_calls (g : Nat) (A : Option Addr) (c : Nat) (bs : List UInt8) (o : Option (List UInt8)) (w : World) (hc : CurO w g A c bs o) (hA : ∀ ad, A = some ad → ad.block < w.heap.size) (hl : bs.length ≤ 1000000) (hLk : ∀ W, w.grownBy W (some g) → Laid W) (hle : LeO 1000000 o) :
    Calls Tryd.prog 76 #[.pointer (some ⟨g, 0, none⟩)] w (fun e w' => ∃ AL cL AC cC, e = .returned (acA (aO o).1 AL cL AC cC) ∧ OwnA w' w.heap.size (aO o).1 AL cL AC cC ∧ w.grownBy w' (some g) ∧ CurO w' g A c bs (aO o).2) := by
  have HC := Lib.hid hc
  have HA := Lib.hid hA
  have HLK := Lib.hid hLk
  have HG : Hid (g < w.heap.size) := hc.lt
  have HOK := Lib.hid (aO_ok hle)
  have H8 : Hid (∀ (W : World) (o : Option (List UInt8)), CurO W g A c bs o → Calls Tryd.prog 74 #[.pointer (some ⟨g, 0, none⟩), .int .i64 8] W (fun e w' => e = .returned (.int .u64 ((nO o 8).1 : Nat)) ∧ W.grownBy w' (some g) ∧ CurO w' g A c bs (nO o 8).2)) := fun W o h => onum_calls g A c bs o 8 W h hl rfl
  have H2 : Hid (∀ (W : World) (o : Option (List UInt8)), CurO W g A c bs o → Calls Tryd.prog 74 #[.pointer (some ⟨g, 0, none⟩), .int .i64 2] W (fun e w' => e = .returned (.int .u64 ((nO o 2).1 : Nat)) ∧ W.grownBy w' (some g) ∧ CurO w' g A c bs (nO o 2).2)) := fun W o h => onum_calls g A c bs o 2 W h hl rfl
  have H4 : Hid (∀ (W : World) (o : Option (List UInt8)), CurO W g A c bs o → Calls Tryd.prog 74 #[.pointer (some ⟨g, 0, none⟩), .int .i64 4] W (fun e w' => e = .returned (.int .u64 ((nO o 4).1 : Nat)) ∧ W.grownBy w' (some g) ∧ CurO w' g A c bs (nO o 4).2)) := fun W o h => onum_calls g A c bs o 4 W h hl rfl
  have HLZ : Hid (∀ (W : World) (o : Option (List UInt8)) (n : Nat), CurO W g A c bs o → w.grownBy W (some g) → n < 18446744073709551616 → Calls Tryd.prog 113 #[.pointer (some ⟨g, 0, none⟩), .int .u64 n, .func (.func 114) #[] #[]] W (fun e w' => ∃ B d, e = .returned (.slice B (rO pLz n o).1.length d) ∧ OwnV w' W.heap.size 64 2 B (rO pLz n o).1.length d ((rO pLz n o).1.flatMap Lz.cs) ∧ W.grownBy w' (some g) ∧ CurO w' g A c bs (rO pLz n o).2)) := fun W o n h hw hn => lsLz_calls g A c bs o n W h (fun ad ha => Nat.lt_of_lt_of_le (hA ad ha) hw.size) hl hn
  have HST : Hid (∀ (W : World) (o : Option (List UInt8)) (n : Nat), CurO W g A c bs o → w.grownBy W (some g) → n < 18446744073709551616 → Calls Tryd.prog 115 #[.pointer (some ⟨g, 0, none⟩), .int .u64 n, .func (.func 116) #[] #[]] W (fun e w' => ∃ B d, e = .returned (.slice B (rO pSt n o).1.length d) ∧ OwnV w' W.heap.size 70 6 B (rO pSt n o).1.length d ((rO pSt n o).1.flatMap St.cs) ∧ W.grownBy w' (some g) ∧ CurO w' g A c bs (rO pSt n o).2)) := fun W o n h hw hn => lsSt_calls g A c bs o n W h (fun ad ha => Nat.lt_of_lt_of_le (hA ad ha) hw.size) hl hn (fun W' h' => hLk W' (hw.trans h'))
  obtain ⟨R, hR⟩ : ∃ R, R = aO o := ⟨_, rfl⟩
  have HRR := Lib.hid hR
  rw [← hR]
  rw [← hR] at HOK
  have HTX : Hid (∀ W, CurO W g A c bs o → Calls Tryd.prog 112 #[.pointer (some ⟨g, 0, none⟩), .int .i64 1, .int .i64 255] W (fun e w' => e = .returned (.string ⟨(tO o).1.toArray⟩) ∧ W.grownBy w' (some g) ∧ CurO w' g A c bs (tO o).2)) := fun W h => otext_calls g A c bs o W h hl
  clear hc hA hLk hR hle
  go_enter Tryd.func76, Tryd.ntmps76
  go_wp2_with (first
    | ((with_reducible show wpList _ _ _ ({ dst := some 2, op := Op.alloc 26, type := _, pos := _, after := _, guard := _ } :: _) _ _); refine alA _ rfl 26 rfl _ _ zero_acct ?_; intro g2 w2 hg hs1 k1 e1; have Z2 := Lib.hid k1; have C2 := Lib.hid (HC.out.ext e1); have M2 := Lib.hid (mv_ext e1 (some g)); have G2 := Lib.hid (Nat.le_of_eq hg); clear hg hs1 k1 e1)
    | ((with_reducible show wpList _ _ _ ({ dst := some 3, op := Op.alloc 26, type := _, pos := _, after := _, guard := _ } :: _) _ _); refine alA _ rfl 26 rfl _ _ zero_acct ?_; intro g3 w3 hg hs1 k1 e1; have Y3 := Lib.hid k1; have Z3 := Lib.hid (Z2.out.ext e1); have C3 := Lib.hid (C2.out.ext e1); have M3 := Lib.hid (mv_new M2.out (mv_ext e1 none) (fun k hk => by cases hk)); have G3 := Lib.hid (show w.heap.size ≤ g3 ∧ g2 < g3 from ⟨by have := M2.out.size; omega, by have := Z2.out.lt; omega⟩); clear hg hs1 k1 e1))
  have K4 : Hid (g ≠ g2 ∧ g ≠ g3) := ⟨by have := HG.out; have := G2.out; omega, by have := HG.out; have := G3.out; omega⟩
  refine (HTX.out _ C3.out).mono ?_
  rintro e w4 ⟨rfl, q4, c4⟩
  have C4 := Lib.hid c4
  have M4 := Lib.hid (M3.out.trans q4)
  have Y4 := Lib.hid (Y3.out.grown q4 (by have := K4.out.2; intro hh; injection hh; omega))
  have Z4 := Lib.hid (Z3.out.grown q4 (by have := K4.out.1; intro hh; injection hh; omega))
  have htl := tO_len o
  clear q4 c4 HTX
  generalize hN0 : tO o = N0 at *
  obtain ⟨t, o0⟩ := N0
  have HN0 := Lib.hid hN0
  clear hN0
  dsimp only at *
  have hten : (⟨t.toArray⟩ : ByteArray).size < 256 := by simpa [ByteArray.size] using htl
  obtain ⟨ten, hten0⟩ : ∃ ten : ByteArray, ten = ⟨t.toArray⟩ := ⟨_, rfl⟩
  rw [← hten0] at hten
  rw [← hten0]
  have HTEN := Lib.hid hten0
  clear hten0
  go_wp2_with (first
    | ((with_reducible show wpList _ _ _ ({ dst := none, op := Op.store 9 (.tmp 7) _, type := _, pos := _, after := _, guard := _ } :: _) _ _); refine stF _ rfl 9 _ _ rfl g3 0 (.string ten) _ _ rfl rfl Y4.out (by show 0 < 7; decide) size_strS rfl ?_; intro w5 hs k5 q5; have Y5 := Lib.hid (show Arr w5 g3 26 (acV ⟨ten, 0, 0, 0, 0, [], []⟩ none 0 none 0) from k5); have Z5 := Lib.hid (Z4.out.grown q5 (by have := G3.out.2; intro hh; injection hh; omega)); have M5 := Lib.hid (mv_new M4.out q5 (fun k hk => by injection hk with hk; have := G3.out.1; omega)); have C5 := Lib.hid (C4.out.keep q5 (by have := K4.out.2; intro hh; injection hh; omega) (fun ad ha hh => by injection hh with hh; have := HA.out ad ha; have := G3.out.1; omega)); clear hs k5 q5))
  refine (H8.out _ _ C5.out).mono ?_
  rintro e w6 ⟨rfl, q4, c4⟩
  have C6 := Lib.hid c4
  have M6 := Lib.hid (M5.out.trans q4)
  have Y6 := Lib.hid (Y5.out.grown q4 (by have := K4.out.2; intro hh; injection hh; omega))
  have Z6 := Lib.hid (Z5.out.grown q4 (by have := K4.out.1; intro hh; injection hh; omega))
  clear q4 c4
  have hv1 := nO_lt o0 8
  generalize hN1 : nO o0 8 = N1 at *
  obtain ⟨v1, o1⟩ := N1
  have HN1 := Lib.hid hN1
  clear hN1
  dsimp only at *
  go_wp2_with (first
    | ((with_reducible show wpList _ _ _ ({ dst := none, op := Op.store 22 (.tmp 10) _, type := _, pos := _, after := _, guard := _ } :: _) _ _); refine stF _ rfl 22 _ _ rfl g3 1 (.int .u64 v1) _ _ rfl rfl Y6.out (by show 1 < 7; decide) size_u64 rfl ?_; intro w7 hs k5 q5; have Y7 := Lib.hid (show Arr w7 g3 26 (acV ⟨ten, v1, 0, 0, 0, [], []⟩ none 0 none 0) from k5); have Z7 := Lib.hid (Z6.out.grown q5 (by have := G3.out.2; intro hh; injection hh; omega)); have M7 := Lib.hid (mv_new M6.out q5 (fun k hk => by injection hk with hk; have := G3.out.1; omega)); have C7 := Lib.hid (C6.out.keep q5 (by have := K4.out.2; intro hh; injection hh; omega) (fun ad ha hh => by injection hh with hh; have := HA.out ad ha; have := G3.out.1; omega)); clear hs k5 q5))
  refine (H8.out _ _ C7.out).mono ?_
  rintro e w8 ⟨rfl, q4, c4⟩
  have C8 := Lib.hid c4
  have M8 := Lib.hid (M7.out.trans q4)
  have Y8 := Lib.hid (Y7.out.grown q4 (by have := K4.out.2; intro hh; injection hh; omega))
  have Z8 := Lib.hid (Z7.out.grown q4 (by have := K4.out.1; intro hh; injection hh; omega))
  clear q4 c4
  have hv2 := nO_lt o1 8
  generalize hN2 : nO o1 8 = N2 at *
  obtain ⟨v2, o2⟩ := N2
  have HN2 := Lib.hid hN2
  clear hN2
  dsimp only at *
  go_wp2_with (first
    | ((with_reducible show wpList _ _ _ ({ dst := none, op := Op.store 22 (.tmp 13) _, type := _, pos := _, after := _, guard := _ } :: _) _ _); refine stF _ rfl 22 _ _ rfl g3 2 (.int .u64 v2) _ _ rfl rfl Y8.out (by show 2 < 7; decide) size_u64 rfl ?_; intro w9 hs k5 q5; have Y9 := Lib.hid (show Arr w9 g3 26 (acV ⟨ten, v1, v2, 0, 0, [], []⟩ none 0 none 0) from k5); have Z9 := Lib.hid (Z8.out.grown q5 (by have := G3.out.2; intro hh; injection hh; omega)); have M9 := Lib.hid (mv_new M8.out q5 (fun k hk => by injection hk with hk; have := G3.out.1; omega)); have C9 := Lib.hid (C8.out.keep q5 (by have := K4.out.2; intro hh; injection hh; omega) (fun ad ha hh => by injection hh with hh; have := HA.out ad ha; have := G3.out.1; omega)); clear hs k5 q5))
  refine (H8.out _ _ C9.out).mono ?_
  rintro e w10 ⟨rfl, q4, c4⟩
  have C10 := Lib.hid c4
  have M10 := Lib.hid (M9.out.trans q4)
  have Y10 := Lib.hid (Y9.out.grown q4 (by have := K4.out.2; intro hh; injection hh; omega))
  have Z10 := Lib.hid (Z9.out.grown q4 (by have := K4.out.1; intro hh; injection hh; omega))
  clear q4 c4
  have hv3 := nO_lt o2 8
  generalize hN3 : nO o2 8 = N3 at *
  obtain ⟨v3, o3⟩ := N3
  have HN3 := Lib.hid hN3
  clear hN3
  dsimp only at *
  go_wp2_with (first
    | ((with_reducible show wpList _ _ _ ({ dst := none, op := Op.store 22 (.tmp 16) _, type := _, pos := _, after := _, guard := _ } :: _) _ _); refine stF _ rfl 22 _ _ rfl g3 3 (.int .u64 v3) _ _ rfl rfl Y10.out (by show 3 < 7; decide) size_u64 rfl ?_; intro w11 hs k5 q5; have Y11 := Lib.hid (show Arr w11 g3 26 (acV ⟨ten, v1, v2, v3, 0, [], []⟩ none 0 none 0) from k5); have Z11 := Lib.hid (Z10.out.grown q5 (by have := G3.out.2; intro hh; injection hh; omega)); have M11 := Lib.hid (mv_new M10.out q5 (fun k hk => by injection hk with hk; have := G3.out.1; omega)); have C11 := Lib.hid (C10.out.keep q5 (by have := K4.out.2; intro hh; injection hh; omega) (fun ad ha hh => by injection hh with hh; have := HA.out ad ha; have := G3.out.1; omega)); clear hs k5 q5))
  refine (H2.out _ _ C11.out).mono ?_
  rintro e w12 ⟨rfl, q4, c4⟩
  have C12 := Lib.hid c4
  have M12 := Lib.hid (M11.out.trans q4)
  have Y12 := Lib.hid (Y11.out.grown q4 (by have := K4.out.2; intro hh; injection hh; omega))
  have Z12 := Lib.hid (Z11.out.grown q4 (by have := K4.out.1; intro hh; injection hh; omega))
  clear q4 c4
  have hv4 := nO_lt o3 2
  generalize hN4 : nO o3 2 = N4 at *
  obtain ⟨n, o4⟩ := N4
  have HN4 := Lib.hid hN4
  clear hN4
  dsimp only at *
  go_wp2_with fail
  refine (HLZ.out _ _ n C12.out M12.out (by omega)).mono ?_
  rintro e w13 ⟨B, d, rfl, oo, q4, c4⟩
  have O13 := Lib.hid (oo.lower M12.out.size)
  have B13 := Lib.hid (show ∀ k, blk B = some k → w12.heap.size ≤ k from fun k hk => (oo.base_ k hk).1)
  have C13 := Lib.hid c4
  have M13 := Lib.hid (M12.out.trans q4)
  have Y13 := Lib.hid (Y12.out.grown q4 (by have := K4.out.2; intro hh; injection hh; omega))
  have Z13 := Lib.hid (Z12.out.grown q4 (by have := K4.out.1; intro hh; injection hh; omega))
  have L13 := Lib.hid (show g2 < w12.heap.size ∧ g3 < w12.heap.size from ⟨Z12.out.lt, Y12.out.lt⟩)
  clear q4 c4 oo HLZ
  generalize hN5 : rO pLz n o4 = N5 at *
  obtain ⟨ls, o5⟩ := N5
  have HN5 := Lib.hid hN5
  clear hN5
  dsimp only at *
  go_wp2_with (first
    | ((with_reducible show wpList _ _ _ ({ dst := none, op := Op.store 23 (.tmp 21) _, type := _, pos := _, after := _, guard := _ } :: _) _ _); refine stF _ rfl 23 _ _ rfl g3 5 (.slice B ls.length d) _ _ rfl rfl Y13.out (by show 5 < 7; decide) size_lsl rfl ?_; intro w14 hs k5 q5; have Y14 := Lib.hid (show Arr w14 g3 26 (acV ⟨ten, v1, v2, v3, 0, ls, []⟩ B d none 0) from k5); have O14 := Lib.hid (O13.out.keep q5 (.inr (fun he => by have := B13.out g3 he; have := L13.out.2; omega))); have Z14 := Lib.hid (Z13.out.grown q5 (by have := G3.out.2; intro hh; injection hh; omega)); have M14 := Lib.hid (mv_new M13.out q5 (fun k hk => by injection hk with hk; have := G3.out.1; omega)); have C14 := Lib.hid (C13.out.keep q5 (by have := K4.out.2; intro hh; injection hh; omega) (fun ad ha hh => by injection hh with hh; have := HA.out ad ha; have := G3.out.1; omega)); clear hs k5 q5))
  refine (H4.out _ _ C14.out).mono ?_
  rintro e w15 ⟨rfl, q4, c4⟩
  have C15 := Lib.hid c4
  have M15 := Lib.hid (M14.out.trans q4)
  have Y15 := Lib.hid (Y14.out.grown q4 (by have := K4.out.2; intro hh; injection hh; omega))
  have Z15 := Lib.hid (Z14.out.grown q4 (by have := K4.out.1; intro hh; injection hh; omega))
  have O15 := Lib.hid (O14.out.keep q4 (.inr (fun he => row_apart O14.out HG.out he.symm)))
  clear q4 c4
  have hv6 := nO_lt o5 4
  generalize hN6 : nO o5 4 = N6 at *
  obtain ⟨m, o6⟩ := N6
  have HN6 := Lib.hid hN6
  clear hN6
  dsimp only at *
  go_wp2_with fail
  refine (HST.out _ _ m C15.out M15.out (by omega)).mono ?_
  rintro e w16 ⟨E, f, rfl, oo, q4, c4⟩
  have P16 := Lib.hid (oo.lower M15.out.size)
  have B16 := Lib.hid (show ∀ k, blk E = some k → w15.heap.size ≤ k from fun k hk => (oo.base_ k hk).1)
  have O16 := Lib.hid (O15.out.keep q4 (.inr (fun he => row_apart O15.out HG.out he.symm)))
  have D16 : Hid (blk B = none ∨ blk B ≠ blk E) := by
    cases hbb : blk B with
    | none => exact .inl rfl
    | some k => exact .inr (fun he => by have h1 := (O15.out.base_ k hbb).2; have h2 := B16.out k he.symm; omega)
  have C16 := Lib.hid c4
  have M16 := Lib.hid (M15.out.trans q4)
  have Y16 := Lib.hid (Y15.out.grown q4 (by have := K4.out.2; intro hh; injection hh; omega))
  have Z16 := Lib.hid (Z15.out.grown q4 (by have := K4.out.1; intro hh; injection hh; omega))
  have L16 := Lib.hid (show g2 < w15.heap.size ∧ g3 < w15.heap.size from ⟨Z15.out.lt, Y15.out.lt⟩)
  clear q4 c4 oo HST
  generalize hN7 : rO pSt m o6 = N7 at *
  obtain ⟨cl, o7⟩ := N7
  have HN7 := Lib.hid hN7
  clear hN7
  dsimp only at *
  have HR1 : Hid (R = (⟨ten, v1, v2, v3, cl.length, ls, fixCl ten cl⟩, o7)) := by show _ = _; rw [HRR.out]; unfold aO; simp only [HN0.out, HN1.out, HN2.out, HN3.out, HN4.out, HN5.out, HN6.out, HN7.out]; unfold mkA; rw [← HTEN.out]
  have hcl : cl.length ≤ 100000 := by have := HOK.out.2.2.2.2.2.2.2.2; rw [HR1.out] at this; simpa [fixCl_len] using this
  have u1 : IntKind.u64.wrap (cl.length : Int) = (cl.length : Int) := IntWalk.u64_in _ (by omega)
  clear HRR HOK
  go_wp2_with (first
    | ((with_reducible show wpList _ _ _ ({ dst := none, op := Op.store 24 (.tmp 26) _, type := _, pos := _, after := _, guard := _ } :: _) _ _); refine stF _ rfl 24 _ _ rfl g3 6 (.slice E cl.length f) _ _ rfl rfl Y16.out (by show 6 < 7; decide) size_stl rfl ?_; intro w17 hs k5 q5; have Y17 := Lib.hid (show Arr w17 g3 26 (acV ⟨ten, v1, v2, v3, 0, ls, cl⟩ B d E f) from k5); have O17 := Lib.hid (O16.out.keep q5 (.inr (fun he => by have := B13.out g3 he; have := L13.out.2; omega))); have P17 := Lib.hid (P16.out.keep q5 (.inr (fun he => by have := B16.out g3 he; have := L16.out.2; omega))); obtain ⟨x0, x1, x2, x3, x4, x5, x6⟩ := ac_cells (show Arr w17 g3 26 (acV ⟨ten, v1, v2, v3, 0, ls, cl⟩ B d E f) from k5); have Z17 := Lib.hid (Z16.out.grown q5 (by have := G3.out.2; intro hh; injection hh; omega)); have M17 := Lib.hid (mv_new M16.out q5 (fun k hk => by injection hk with hk; have := G3.out.1; omega)); have C17 := Lib.hid (C16.out.keep q5 (by have := K4.out.2; intro hh; injection hh; omega) (fun ad ha hh => by injection hh with hh; have := HA.out ad ha; have := G3.out.1; omega)); clear hs k5 q5)
    | ((with_reducible show wpList _ _ _ ({ dst := none, op := Op.store 22 (.tmp 31) _, type := _, pos := _, after := _, guard := _ } :: _) _ _); refine stF _ rfl 22 _ _ rfl g3 4 (.int .u64 cl.length) _ _ rfl rfl Y17.out (by show 4 < 7; decide) size_u64 rfl ?_; intro w18 hs k5 q5; have Y18 := Lib.hid (show Arr w18 g3 26 (acV ⟨ten, v1, v2, v3, cl.length, ls, cl⟩ B d E f) from k5); have O18 := Lib.hid (O17.out.keep q5 (.inr (fun he => by have := B13.out g3 he; have := L13.out.2; omega))); have P18 := Lib.hid (P17.out.keep q5 (.inr (fun he => by have := B16.out g3 he; have := L16.out.2; omega))); clear x0 x1 x2 x3 x4 x5 x6; obtain ⟨x0, x1, x2, x3, x4, x5, x6⟩ := ac_cells (show Arr w18 g3 26 (acV ⟨ten, v1, v2, v3, cl.length, ls, cl⟩ B d E f) from k5); have Z18 := Lib.hid (Z17.out.grown q5 (by have := G3.out.2; intro hh; injection hh; omega)); have M18 := Lib.hid (mv_new M17.out q5 (fun k hk => by injection hk with hk; have := G3.out.1; omega)); have C18 := Lib.hid (C17.out.keep q5 (by have := K4.out.2; intro hh; injection hh; omega) (fun ad ha hh => by injection hh with hh; have := HA.out ad ha; have := G3.out.1; omega)); clear hs k5 q5))
  clear x0 x1 x2 x3 x4 x5 x6
  have HM0 : Hid (cl.flatMap St.cs = (mixS ten cl 0).flatMap St.cs) := by show _ = _; rw [mixS_zero]
  go_loopw [35] (fun i wr => ∃ (k : Nat), k ≤ cl.length ∧ i = .int .i64 k ∧ OwnV wr w.heap.size 70 6 E cl.length f ((mixS ten cl k).flatMap St.cs) ∧ OwnV wr w.heap.size 64 2 B ls.length d (ls.flatMap Lz.cs) ∧ Arr wr g3 26 (acV ⟨ten, v1, v2, v3, cl.length, ls, cl⟩ B d E f) ∧ Arr wr g2 26 (acV Ac0 none 0 none 0) ∧ w.grownBy wr (some g) ∧ CurO wr g A c bs o7) (fun i _ => cl.length - (intOf i).toNat)
  case atStart => exact ⟨0, Nat.zero_le _, rfl, by rw [← HM0.out]; exact P18.out, O18.out, Y18.out, Z18.out, M18.out, C18.out⟩
  case round =>
    obtain ⟨k, hk, rfl, p, q, y, z, mm, cc⟩ := hrel
    have P19 := Lib.hid p
    have O19 := Lib.hid q
    have Y19 := Lib.hid y
    have Z19 := Lib.hid z
    have M19 := Lib.hid mm
    have C19 := Lib.hid cc
    clear p q y z mm cc
    obtain ⟨x0, x1, x2, x3, x4, x5, x6⟩ := ac_cells Y19.out
    by_cases hlt : k < cl.length
    · have k1 : (k : Int) < (cl.length : Int) := by omega
      obtain ⟨gE, rfl⟩ : ∃ gE, E = some ⟨gE, 0, none⟩ := by
        rcases P19.out.2 with ⟨hv, hz⟩ | ⟨gE, cap, cur, hv, _⟩
        · omega
        · injection hv with hv; exact ⟨gE, hv⟩
      have hml : ((mixS ten cl k).flatMap St.cs).length = cl.length * 6 := P19.out.1
      have HME := Lib.hid (mixS_step (ten := ten) hlt)
      have FE : Hid (gE ≠ g3 ∧ gE ≠ g2 ∧ gE ≠ g ∧ w.heap.size ≤ gE) := ⟨fun he => by have := B16.out gE rfl; have := L16.out.2; omega, fun he => by have := B16.out gE rfl; have := L16.out.1; omega, fun he => row_apart P19.out HG.out (by rw [← he]; rfl), (P19.out.base_ gE rfl).1⟩
      have BE : Hid (blk B = none ∨ blk B ≠ some gE) := D16.out
      have h6 : k * 6 < ((mixS ten cl k).flatMap St.cs).length := by rw [hml]; omega
      have h7 : k * 6 + 1 < ((mixS ten cl k).flatMap St.cs).length := by rw [hml]; omega
      clear hml
      generalize (mixS ten cl k).flatMap St.cs = X at *
      have hk7 : k * 6 + 1 < (X.set (k * 6) (.string ten)).length := by rw [List.length_set]; exact h7
      have uk : IntKind.u64.wrap (k : Int) = (k : Int) := IntWalk.u64_in _ (by omega)
      go_wp2_with (first
        | ((with_reducible show wpList _ _ _ ({ dst := none, op := Op.store 9 (.tmp 44) _, type := _, pos := _, after := _, guard := _ } :: _) _ _); refine stR _ rfl 9 _ _ rfl gE (k * 6) (.string ten) w.heap.size _ _ _ _ X rfl rfl P19.out h6 size_strS rfl ?_; intro w20 hs p5 q5; have P20 := Lib.hid p5; have O20 := Lib.hid (O19.out.keep q5 BE.out); have Y20 := Lib.hid (Y19.out.grown q5 (by have := FE.out.1; intro hh; injection hh; omega)); have Z20 := Lib.hid (Z19.out.grown q5 (by have := FE.out.2.1; intro hh; injection hh; omega)); have M20 := Lib.hid (mv_new M19.out q5 (fun k hk => by injection hk with hk; have := FE.out.2.2.2; omega)); have C20 := Lib.hid (C19.out.keep q5 (by have := FE.out.2.2.1; intro hh; injection hh; omega) (fun ad ha hh => by injection hh with hh; have := HA.out ad ha; have := FE.out.2.2.2; omega)); clear hs p5 q5 x0 x1 x2 x3 x4 x5 x6; obtain ⟨x0, x1, x2, x3, x4, x5, x6⟩ := ac_cells Y20.out)
        | ((with_reducible show wpList _ _ _ ({ dst := none, op := Op.store 22 (.tmp 51) _, type := _, pos := _, after := _, guard := _ } :: _) _ _); refine stR _ rfl 22 _ _ rfl gE (k * 6 + 1) (.int .u64 k) w.heap.size _ _ _ _ (X.set (k * 6) (.string ten)) rfl rfl P20.out hk7 size_u64 rfl ?_; intro w21 hs p5 q5; have P21 := Lib.hid p5; have O21 := Lib.hid (O20.out.keep q5 BE.out); have Y21 := Lib.hid (Y20.out.grown q5 (by have := FE.out.1; intro hh; injection hh; omega)); have Z21 := Lib.hid (Z20.out.grown q5 (by have := FE.out.2.1; intro hh; injection hh; omega)); have M21 := Lib.hid (mv_new M20.out q5 (fun k hk => by injection hk with hk; have := FE.out.2.2.2; omega)); have C21 := Lib.hid (C20.out.keep q5 (by have := FE.out.2.2.1; intro hh; injection hh; omega) (fun ad ha hh => by injection hh with hh; have := HA.out ad ha; have := FE.out.2.2.2; omega)); clear hs p5 q5 x0 x1 x2 x3 x4 x5 x6))
      go_roundw
      case rel => exact ⟨k + 1, by omega, by go_num, by rw [← HME.out]; exact P21.out, O21.out, Y21.out, Z21.out, M21.out, C21.out⟩
      case measure => simp [intOf]; omega
    · have k1 : ¬ (k : Int) < (cl.length : Int) := by omega
      obtain rfl : k = cl.length := by omega
      have PF : Hid (OwnV wr w.heap.size 70 6 E (fixCl ten cl).length f ((fixCl ten cl).flatMap St.cs)) := by show OwnV _ _ _ _ _ _ _ _; rw [fixCl_len, ← mixS_all]; exact P19.out
      have YF : Hid (Arr wr g3 26 (acV ⟨ten, v1, v2, v3, cl.length, ls, fixCl ten cl⟩ B d E f)) := by
        have h := Y19.out
        show Arr _ _ _ (acV ⟨ten, v1, v2, v3, cl.length, ls, fixCl ten cl⟩ B d E f)
        unfold acV at h ⊢
        simp only [fixCl_len] at h ⊢
        exact h
      clear x0 x1 x2 x3 x4 x5 x6
      have G22 : Hid (Off B g2 ∧ Off E g2) := ⟨fun k hk he => by have := B13.out k hk; have := L13.out.1; omega, fun k hk he => by have := B16.out k hk; have := L16.out.1; omega⟩
      go_wp2_with (first
        | ((with_reducible show wpList _ _ _ ({ dst := some 53, op := Op.load 26 _, type := _, pos := _, after := _, guard := _ } :: _) _ _); refine ldA _ rfl 26 26 _ rfl g3 rfl _ _ YF.out Tryd.underlying26 rfl size_acct ?_)
        | ((with_reducible show wpList _ _ _ ({ dst := none, op := Op.store 26 (Operand.tmp 2) _, type := _, pos := _, after := _, guard := _ } :: _) _ _); refine stA _ rfl 26 26 _ _ rfl g2 _ (acV ⟨ten, v1, v2, v3, cl.length, ls, fixCl ten cl⟩ B d E f) rfl rfl Z19.out size_acct rfl (ac_one _ _ _ _ _) ?_; intro w22 hs k6 q6; have Z22 := Lib.hid k6; have P22 := Lib.hid (PF.out.keep q6 G22.out.2.row); have O22 := Lib.hid (O19.out.keep q6 G22.out.1.row); have M22 := Lib.hid (mv_new M19.out q6 (fun k hk => by injection hk with hk; have := G2.out; omega)); have C22 := Lib.hid (C19.out.keep q6 (by have := K4.out.1; intro hh; injection hh; omega) (fun ad ha hh => by injection hh with hh; have := HA.out ad ha; have := G2.out; omega)); clear hs k6 q6))
      refine ret_row Tryd.results76 g2 _ _ _ rfl Z22.out Tryd.underlying26 rfl size_acct ?_
      rw [HR1.out]
      exact ⟨B, d, E, f, rfl, ⟨O22.out, P22.out, D16.out⟩, M22.out, C22.out⟩
end Go.Proofs.YtkbjnlbbfapgdaaDoor

namespace Go.Proofs.YtkbjnlbbfapgdaaDoor
open Go.RowKit

theorem rO_len {α : Type} {p : Rdr α} {enc : α → List UInt8} {ok : α → Prop} (C : Cod p enc ok) (n : Nat) (o : Option (List UInt8)) : (rO p n o).1.length ≤ n := by
  cases o with
  | none => simp [rO_none]
  | some q =>
    cases hp : pR p n q with
    | none => rw [rO_no hp]; simp
    | some x => rw [rO_yes hp]; exact Nat.le_of_eq ((cod_R C n).inv _ _ _ hp).2.1
theorem encA_pos (x : Ac) : 0 < (encA x).length := by rw [encA_len]; omega

set_option maxHeartbeats 8000000 in
theorem lsAc_calls (g : Nat) (A : Option Addr) (c : Nat) (bs : List UInt8) (o : Option (List UInt8)) (n : Nat) (w : World) (hc : CurO w g A c bs o) (hA : ∀ ad, A = some ad → ad.block < w.heap.size) (hl : bs.length ≤ 1000000) (hn : n < 18446744073709551616) (hLk : ∀ W, w.grownBy W (some g) → Laid W) :
    Calls Tryd.prog 75 #[.pointer (some ⟨g, 0, none⟩), .int .u64 n, .func (.func 76) #[] #[]] w (fun e w' => ∃ B d, ∃ ys : List Ax, e = .returned (.slice B ys.length d) ∧ acs ys = (rO pA n o).1 ∧ OwnL w' w.heap.size B d ys ∧ w.grownBy w' (some g) ∧ CurO w' g A c bs (rO pA n o).2) := by
  have HC := Lib.hid hc
  have HA := Lib.hid hA
  have HG : Hid (g < w.heap.size) := hc.lt
  have HLE : Hid (∀ W oo, CurO W g A c bs oo → LeO 1000000 oo) := fun W oo h r hr => by subst hr; exact Nat.le_trans h.le hl
  have HR : Hid (∀ (W : World) (o : Option (List UInt8)), CurO W g A c bs o → w.grownBy W (some g) → Calls Tryd.prog 76 #[.pointer (some ⟨g, 0, none⟩)] W (fun e w' => ∃ AL cL AC cC, e = .returned (acA (aO o).1 AL cL AC cC) ∧ OwnA w' W.heap.size (aO o).1 AL cL AC cC ∧ W.grownBy w' (some g) ∧ CurO w' g A c bs (aO o).2)) := fun W o h hw => rac_calls g A c bs o W h (fun ad ha => Nat.lt_of_lt_of_le (hA ad ha) hw.size) hl (fun W' h' => hLk W' (hw.trans h')) (HLE.out W o h)
  have HS : Hid (LsI pA n o bs.length 0 [] o) := LsI.start (fun r hr => by subst hr; exact hc.le)
  obtain ⟨R, hR⟩ : ∃ R, R = rO pA n o := ⟨_, rfl⟩
  have HRR := Lib.hid hR
  rw [← hR]
  clear hc hA hR hLk
  have eg : ∀ args w, (callFunc 76 args).run Tryd.prog w = .ok (.enter 76 args) w := enters_of Tryd.func76 (by kernel_rfl) rfl
  go_enter Tryd.func75, Tryd.ntmps75
  go_wp2_with fail
  go_loopw [7, 10] (fun l i wr => ∃ (k : Nat) (ys : List Ax) (oo : Option (List UInt8)) (B : Option Addr) (d : Nat), i = .int .u64 k ∧ l = .slice B ys.length d ∧ LsI pA n o bs.length k (acs ys) oo ∧ OwnL wr w.heap.size B d ys ∧ w.grownBy wr (some g) ∧ CurO wr g A c bs oo) (fun _ i _ => n - (intOf i).toNat)
  case atStart => exact ⟨0, [], o, none, 0, rfl, rfl, HS.out, OwnL.nil _ _, World.grownBy.refl _ _, HC.out⟩
  case round =>
    obtain ⟨k, ys, oo, B, d, rfl, rfl, hI, hO, hM, hQ⟩ := hrel
    have HI := Lib.hid hI
    have HO := Lib.hid hO
    have HM := Lib.hid hM
    have HQ := Lib.hid hQ
    have hkl := hI.le hl
    have hxl : ys.length ≤ 1000000 := by have := hI.1; rw [acs_len] at this; omega
    have hkn := hI.2.1
    clear hI hO hM hQ
    by_cases hlt : k < n
    · have k1 : (k : Int) < (n : Int) := by omega
      have uw : IntKind.u64.wrap ((k : Int) + 1) = (k : Int) + 1 := IntWalk.u64_in _ (by omega)
      have HRC := Lib.hid (HR.out wr oo HQ.out HM.out)
      have HXO := Lib.hid (aO_ok (HLE.out wr oo HQ.out))
      cases hp : oo.bind pA with
      | none =>
        have HN2 : Hid ((aO oo).2 = none) := by show _ = _; rw [(aO_steps oo).1, hp]; rfl
        have HRF : Hid (R = ([], none)) := by show _ = _; rw [HRR.out]; exact HI.out.fail hlt hp
        clear hp
        generalize aO oo = X at *
        obtain ⟨x, o2⟩ := X
        dsimp only at *
        obtain rfl : o2 = none := HN2.out
        unfold acA at HRC
        go_wp2_with (first
          | (go_at_fn 76; refine HRC.out.mono ?_; rintro e w2 ⟨AL, cL, AC, cC, rfl, _, q2, c2⟩; have C2 := Lib.hid c2; have M2 := Lib.hid (HM.out.trans q2); clear q2 c2)
          | ((with_reducible show wpList _ _ _ ({ dst := some 8, op := Op.alloc 26, type := _, pos := _, after := _, guard := _ } :: _) _ _); refine alA _ rfl 26 rfl _ _ zero_acct ?_; intro g8 w3 hg hs1 k1' e1; have Z3 := Lib.hid k1'; have C3 := Lib.hid (C2.out.ext e1); have M3 := Lib.hid (mv_new M2.out (mv_ext e1 none) (fun k hk => by cases hk)); have G3 := Lib.hid (show w.heap.size ≤ g8 from by have := M2.out.size; omega); clear hg hs1 k1' e1)
          | ((with_reducible show wpList _ _ _ ({ dst := none, op := Op.store 26 (Operand.tmp 8) _, type := _, pos := _, after := _, guard := _ } :: _) _ _); refine stA _ rfl 26 26 _ _ rfl g8 _ (acV x AL cL AC cC) rfl rfl Z3.out size_acct rfl (ac_one _ _ _ _ _) ?_; intro w4 hs k6 q6; have Z4 := Lib.hid k6; have M4 := Lib.hid (mv_new M3.out q6 (fun k hk => by injection hk with hk; have := G3.out; omega)); have C4 := Lib.hid (C3.out.keep q6 (by have := HG.out; have := G3.out; intro hh; injection hh; omega) (fun ad ha hh => by injection hh with hh; have := HA.out ad ha; have := G3.out; omega)); clear hs k6 q6)
          | (go_at_call 77; refine (oerr_calls g A c bs none _ C4.out).mono ?_; rintro e w5 ⟨⟨er, rfl, her⟩, rfl⟩; have her2 : (er != 0) = true := her))
        go_ret
        rw [HRF.out]
        exact ⟨none, 0, [], rfl, rfl, OwnL.nil _ _, M4.out, C4.out⟩
      | some X0 =>
        obtain ⟨r, rfl⟩ : ∃ r, oo = some r := by
          cases oo with
          | none => cases hp
          | some r => exact ⟨r, rfl⟩
        have HFX : Hid (aO (some r) = (X0.1, some X0.2)) := aO_steps.yes hp
        have HI2 : Hid (LsI pA n o bs.length (k + 1) (acs ys ++ [X0.1]) (some X0.2)) := HI.out.next cod_A encA_pos hlt hp
        rw [HFX.out] at HRC HXO
        clear hp HFX
        obtain ⟨x, r2⟩ := X0
        dsimp only at *
        unfold acA at HRC
        go_wp2_with (first
          | (go_at_fn 76; refine HRC.out.mono ?_; rintro e w2 ⟨AL, cL, AC, cC, rfl, x2, q2, c2⟩; have C2 := Lib.hid c2; have X2 := Lib.hid x2; have M2 := Lib.hid (HM.out.trans q2); have P2 := Lib.hid (HO.out.keep q2 (HO.out.off (.inl HG.out))); clear q2 c2 x2)
          | ((with_reducible show wpList _ _ _ ({ dst := some 8, op := Op.alloc 26, type := _, pos := _, after := _, guard := _ } :: _) _ _); refine alA _ rfl 26 rfl _ _ zero_acct ?_; intro g8 w3 hg hs1 k1' e1; have Z3 := Lib.hid k1'; have P3 := Lib.hid (P2.out.ext e1); have X3 := Lib.hid (X2.out.ext e1); have C3 := Lib.hid (C2.out.ext e1); have M3 := Lib.hid (mv_new M2.out (mv_ext e1 none) (fun k hk => by cases hk)); have G3 := Lib.hid (show w.heap.size ≤ g8 ∧ w2.heap.size ≤ g8 from ⟨by have := M2.out.size; omega, by omega⟩); clear hg hs1 k1' e1)
          | ((with_reducible show wpList _ _ _ ({ dst := none, op := Op.store 26 (Operand.tmp 8) _, type := _, pos := _, after := _, guard := _ } :: _) _ _); refine stA _ rfl 26 26 _ _ rfl g8 _ (acV x AL cL AC cC) rfl rfl Z3.out size_acct rfl (ac_one _ _ _ _ _) ?_; intro w4 hs k6 q6; have P4 := Lib.hid (P3.out.keep q6 (P2.out.off (.inr G3.out.2))); have X4 := Lib.hid (X3.out.keep q6 (X2.out.off (.inr G3.out.2)).1 (X2.out.off (.inr G3.out.2)).2); have M4 := Lib.hid (mv_new M3.out q6 (fun k hk => by injection hk with hk; have := G3.out.1; omega)); have C4 := Lib.hid (C3.out.keep q6 (by have := HG.out; have := G3.out.1; intro hh; injection hh; omega) (fun ad ha hh => by injection hh with hh; have := HA.out ad ha; have := G3.out.1; omega)); obtain ⟨y0, y1, y2, y3, y4, y5, y6⟩ := ac_cells k6; clear hs k6 q6)
          | (go_at_call 77; refine (oerr_calls g A c bs (some r2) _ C4.out).mono ?_; rintro e w5 ⟨⟨er, rfl, her⟩, rfl⟩; have her2 : (er != 0) = false := her)
          | (at_builtin; refine appV _ rfl (.tmp 18) (.tmp 20) 38 rfl 26 (.agg (acV Ac0 none 0 none 0)) 7 96 Tryd.underlying38 info_acct rfl (by decide) w.heap.size B ys.length d (ys.flatMap Ax.cs) rfl ⟨w4.heap.size, 0, none⟩ 1 1 (Ax.cs ⟨x, AL, cL, AC, cC⟩) rfl ?_ (P4.out.1.ext ((Ext.refl _).alloc _)) rfl (cells_new w4 _ _) (ax_one _) (by omega) (by omega) (by have := M4.out.size; simp; omega); intro B6 d6 w6 h6 g6 b6; have P6 := Lib.hid (OwnL.snoc (x := ⟨x, AL, cL, AC, cC⟩) (P4.out.ext ((Ext.refl _).alloc _)) ((X4.out.ext ((Ext.refl _).alloc _)).in_ HXO.out) HXO.out (X4.out.ap (fun k hk => (HO.out.1.base_ k hk).2)) (X4.out.hi HM.out.size) h6 g6 b6); have M6 := Lib.hid (mv_new (mv_new M4.out (mv_ext ((Ext.refl _).alloc _) none) (fun k hk => by cases hk)) g6 (fun k hk => (P4.out.1.base_ k hk).1)); have C6 := Lib.hid ((C4.out.ext ((Ext.refl _).alloc _)).keep g6 (row_apart P4.out.1 HG.out) (fun ad ha => row_apart P4.out.1 (HA.out ad ha))); clear h6 g6 b6 y0 y1 y2 y3 y4 y5 y6))
        go_roundw
        case rel => exact ⟨k + 1, ys ++ [⟨x, AL, cL, AC, cC⟩], some r2, B6, d6, by go_num, by rw [List.length_append]; rfl, by show LsI _ _ _ _ _ (List.map _ _) _; rw [List.map_append]; exact HI2.out, P6.out, M6.out, C6.out⟩
        case measure => simp [intOf]; omega
    · have k1 : ¬ (k : Int) < (n : Int) := by omega
      obtain rfl : k = n := by omega
      have HRF : Hid (R = (acs ys, oo)) := by show _ = _; rw [HRR.out]; exact HI.out.done
      go_wp2_with fail
      go_ret
      rw [HRF.out]
      exact ⟨B, d, ys, rfl, rfl, HO.out, HM.out, HQ.out⟩

def lO (o : Option (List UInt8)) : (Nat × List Ac) × Option (List UInt8) := (((nO o 8).1, (rO pA (nO (nO o 8).2 1).1 (nO (nO o 8).2 1).2).1), (rO pA (nO (nO o 8).2 1).1 (nO (nO o 8).2 1).2).2)
theorem lO_steps : Steps lO pL := by
  intro o
  cases o with
  | none => exact ⟨rfl, fun x h => by cases h⟩
  | some r =>
    show (lO (some r)).2 = (pL r).map _ ∧ ∀ x, pL r = some x → _
    unfold lO pL
    cases h1 : pN 8 r with
    | none => simp only [nO_no h1, nO_none, rO_none]; exact ⟨rfl, fun x h => by cases h⟩
    | some a =>
    simp only [nO_yes h1, Option.bind_some]
    cases h2 : pN 1 a.2 with
    | none => simp only [nO_no h2, rO_none]; exact ⟨rfl, fun x h => by cases h⟩
    | some b =>
    simp only [nO_yes h2, Option.bind_some]
    cases h3 : pR pA b.1 b.2 with
    | none => simp only [rO_no h3]; exact ⟨rfl, fun x h => by cases h⟩
    | some d =>
    simp only [rO_yes h3, Option.bind_some]
    exact ⟨rfl, fun x h => by injection h with h; rw [← h]⟩
/-- what Decode answers -/
def decB (body : List UInt8) : (Nat × List Ac) × Int := match pL body with
  | none => ((0, []), 1)
  | some x => if x.2 = [] ∧ rightL x.1.2 = true then (x.1, 0) else ((0, []), 2)
def decS (bs : List UInt8) : (Nat × List Ac) × Int := if (openR bs).2 = true then decB (openR bs).1 else ((0, []), 4)
def RetDS (w : World) (D : (Nat × List Ac) × Int) (e : Ending) (w' : World) : Prop := ∃ B d, ∃ ys : List Ax, e = .returned (.tuple #[(.agg #[.int .u64 D.1.1, .slice B ys.length d]), .int .i64 D.2]) ∧ acs ys = D.1.2 ∧ RdL w' B ys ∧ (∀ y ∈ ys, y.a.ok) ∧ Ext w w'
theorem rdl_nil (w : World) : RdL w none [] := ⟨RdE.nil, by simp⟩

set_option maxHeartbeats 8000000 in
theorem sdec_calls (A : Option Addr) (c : Nat) (bs : List UInt8) (w : World) (hb : RdB w A bs) (hl : bs.length ≤ 1000000) (hcap : bs.length ≤ c) (hcm : c ≤ 9223372036854775807) (hL : Laid w) :
    Calls Tryd.prog 26 #[.slice A bs.length c] w (RetDS w (decS bs)) := by
  have HO : Hid (∀ W, Ext w W → Calls Tryd.prog 72 #[.slice A bs.length c] W (RetB2 W (openR bs).1 (.bool (openR bs).2))) := fun W e => open_calls A c bs W (hb.ext e) hl hcap hcm
  have HL := Lib.hid hL
  have hob : (openR bs).1.length ≤ 1000000 := by unfold openR; split <;> simp <;> omega
  obtain ⟨R, hR⟩ : ∃ R, R = decS bs := ⟨_, rfl⟩
  rw [← hR]
  have hRR : R = if (openR bs).2 = true then decB (openR bs).1 else ((0, []), 4) := hR
  clear hb hL hR
  generalize openR bs = OB at *
  obtain ⟨body, ok⟩ := OB
  dsimp only at *
  cases ok with
  | false =>
    have HR : Hid (R = ((0, []), 4)) := by show _ = _; rw [hRR]; rfl
    clear hRR
    go_enter Tryd.func26, Tryd.ntmps26
    go_wp2_with (first
      | ((with_reducible show wpList _ _ _ ({ dst := some 2, op := Op.alloc 40, type := _, pos := _, after := _, guard := _ } :: _) _ _); refine alA _ rfl 40 rfl _ _ zero_lg ?_; intro g2 w2 hg hs1 k1 e1; have Z2 := Lib.hid k1; have E2 := Lib.hid e1; have G2 := Lib.hid (Nat.le_of_eq hg); clear hg hs1 k1 e1)
      | (go_at_call 72; refine (HO.out _ E2.out).mono ?_; rintro e w3 ⟨B3, c3, rfl, o3, e3⟩; have Z3 := Lib.hid (Z2.out.ext e3); have E3 := Lib.hid (E2.out.trans e3); clear o3 e3)
      | ((with_reducible show wpList _ _ _ ({ dst := none, op := Op.store 40 (Operand.tmp 2) _, type := _, pos := _, after := _, guard := _ } :: _) _ _); refine stA _ rfl 40 40 _ _ rfl g2 _ #[.int .u64 0, .slice none 0 0] rfl rfl Z3.out size_lg rfl (lg_one 0 _ _ _) ?_; intro w4 hs k4 q4; have Z4 := Lib.hid k4; have E4 := Lib.hid (E3.out.grown q4 (fun q hq => by injection hq with hq; have := G2.out; omega)); clear hs k4 q4))
    exact ret_rowT Tryd.results26 g2 _ _ _ _ rfl rfl Z4.out Tryd.underlying40 rfl size_lg ⟨none, 0, [], by rw [HR.out]; rfl, by rw [HR.out]; rfl, rdl_nil _, by simp, E4.out⟩
  | true =>
    have hRB : R = decB body := hRR
    have HRB := Lib.hid hRB
    clear hRR hRB
    have H8 : Hid (∀ (W : World) (g : Nat) (A : Option Addr) (c : Nat) (o : Option (List UInt8)), CurO W g A c body o → Calls Tryd.prog 74 #[.pointer (some ⟨g, 0, none⟩), .int .i64 8] W (fun e w' => e = .returned (.int .u64 ((nO o 8).1 : Nat)) ∧ W.grownBy w' (some g) ∧ CurO w' g A c body (nO o 8).2)) := fun W g A c o h => onum_calls g A c body o 8 W h hob rfl
    have H1 : Hid (∀ (W : World) (g : Nat) (A : Option Addr) (c : Nat) (o : Option (List UInt8)), CurO W g A c body o → Calls Tryd.prog 74 #[.pointer (some ⟨g, 0, none⟩), .int .i64 1] W (fun e w' => e = .returned (.int .u64 ((nO o 1).1 : Nat)) ∧ W.grownBy w' (some g) ∧ CurO w' g A c body (nO o 1).2)) := fun W g A c o h => onum_calls g A c body o 1 W h hob rfl
    have HLS : Hid (lO (some body) = (((nO (some body) 8).1, (rO pA (nO (nO (some body) 8).2 1).1 (nO (nO (some body) 8).2 1).2).1), (rO pA (nO (nO (some body) 8).2 1).1 (nO (nO (some body) 8).2 1).2).2)) := rfl
    have HST : Hid ((lO (some body)).2 = (pL body).map (·.2) ∧ ∀ x, pL body = some x → (lO (some body)).1 = x.1) := lO_steps (some body)
    rw [HLS.out] at HST
    clear HLS
    go_enter Tryd.func26, Tryd.ntmps26
    go_wp2_with (first
      | ((with_reducible show wpList _ _ _ ({ dst := some 2, op := Op.alloc 40, type := _, pos := _, after := _, guard := _ } :: _) _ _); refine alA _ rfl 40 rfl _ _ zero_lg ?_; intro g2 w2 hg hs1 k1 e1; have Z2 := Lib.hid k1; have E2 := Lib.hid e1; have G2 := Lib.hid (Nat.le_of_eq hg); clear hg hs1 k1 e1)
      | (go_at_call 72; refine (HO.out _ E2.out).mono ?_; rintro e w3 ⟨B3, c3, rfl, o3, e3⟩; have Z3 := Lib.hid (Z2.out.ext e3); have O3 := Lib.hid o3; have E3 := Lib.hid (E2.out.trans e3); clear o3 e3)
      | (go_at_call 73; refine (newCursorA_calls B3 c3 body _ O3.out.rd hob).mono ?_; rintro e w4 ⟨g, B, d, rfl, hge, hcu, hbd, e4⟩; have GG := Lib.hid (show w.heap.size ≤ g ∧ g2 < g from ⟨by have := E3.out.size; omega, by have := Z3.out.lt; omega⟩); have C4 : Hid (CurO w4 g B d body (some body)) := ⟨0, 0, hcu, rfl⟩; have BD := Lib.hid (show ∀ ad, B = some ad → ad.block < w4.heap.size ∧ g2 < ad.block from fun ad ha => ⟨(hbd ad ha).2, by have := (hbd ad ha).1; have := Z3.out.lt; omega⟩); have Z4 := Lib.hid (Z3.out.ext e4); have E4 := Lib.hid (E3.out.trans e4); clear hge hcu hbd e4)
      | ((with_reducible show wpList _ _ _ ({ dst := some 7, op := Op.alloc 40, type := _, pos := _, after := _, guard := _ } :: _) _ _); refine alA _ rfl 40 rfl _ _ zero_lg ?_; intro g7 w5 hg hs1 k1 e1; have Y5 := Lib.hid k1; have Z5 := Lib.hid (Z4.out.ext e1); have C5 := Lib.hid (C4.out.ext e1); have E5 := Lib.hid (E4.out.trans e1); have G7 := Lib.hid (show w.heap.size ≤ g7 ∧ g < g7 ∧ g2 < g7 ∧ (∀ ad, B = some ad → ad.block < g7) from ⟨by have := E4.out.size; omega, by have := C4.out.lt; omega, by have := Z4.out.lt; omega, fun ad ha => by have := (BD.out ad ha).1; omega⟩); clear hg hs1 k1 e1))
    refine (H8.out _ _ _ _ _ C5.out).mono ?_
    rintro e w6 ⟨rfl, q6, c6⟩
    have C6 := Lib.hid c6
    have Y6 := Lib.hid (Y5.out.grown q6 (by have := G7.out.2.1; intro hh; injection hh; omega))
    have Z6 := Lib.hid (Z5.out.grown q6 (by have := GG.out.2; intro hh; injection hh; omega))
    have E6 := Lib.hid (E5.out.grown q6 (fun q hq => by injection hq with hq; have := GG.out.1; omega))
    have hs8 := nO_lt (some body) 8
    clear q6 c6
    generalize nO (some body) 8 = N1 at *
    obtain ⟨s, o1⟩ := N1
    dsimp only at *
    go_wp2_with (first
      | ((with_reducible show wpList _ _ _ ({ dst := none, op := Op.store 22 (.tmp 20) _, type := _, pos := _, after := _, guard := _ } :: _) _ _); refine stF _ rfl 22 _ _ rfl g7 0 (.int .u64 s) _ _ rfl rfl Y6.out (by show 0 < 2; decide) size_u64 rfl ?_; intro w7 hs k5 q5; have Y7 := Lib.hid (show Arr w7 g7 40 #[.int .u64 s, .slice none 0 0] from k5); have Z7 := Lib.hid (Z6.out.grown q5 (by have := G7.out.2.2.1; intro hh; injection hh; omega)); have E7 := Lib.hid (E6.out.grown q5 (fun q hq => by injection hq with hq; have := G7.out.1; omega)); have C7 := Lib.hid (C6.out.keep q5 (by have := G7.out.2.1; intro hh; injection hh; omega) (fun ad ha hh => by injection hh with hh; have := G7.out.2.2.2 ad ha; omega)); have S7 := Lib.hid hs; clear hs k5 q5))
    refine (H1.out _ _ _ _ _ C7.out).mono ?_
    rintro e w8 ⟨rfl, q6, c6⟩
    have C8 := Lib.hid c6
    have Y8 := Lib.hid (Y7.out.grown q6 (by have := G7.out.2.1; intro hh; injection hh; omega))
    have Z8 := Lib.hid (Z7.out.grown q6 (by have := GG.out.2; intro hh; injection hh; omega))
    have E8 := Lib.hid (E7.out.grown q6 (fun q hq => by injection hq with hq; have := GG.out.1; omega))
    have hn1 := nO_lt o1 1
    have BD8 := Lib.hid (show ∀ ad, B = some ad → ad.block < w8.heap.size from fun ad ha => by have := G7.out.2.2.2 ad ha; have := Y8.out.lt; omega)
    clear q6 c6
    generalize nO o1 1 = N2 at *
    obtain ⟨n, o2⟩ := N2
    dsimp only at *
    go_wp2_with fail
    refine (lsAc_calls g B d body o2 n _ C8.out BD8.out hob (by omega) (fun W h => HL.out.ext (E8.out.grown h (fun q hq => by injection hq with hq; have := GG.out.1; omega)))).mono ?_
    rintro e w9 ⟨B9, d9, ys, rfl, hy, o9, q6, c6⟩
    have HY := Lib.hid hy
    have O9 := Lib.hid o9
    have C9 := Lib.hid c6
    have Y9 := Lib.hid (Y8.out.grown q6 (by have := G7.out.2.1; intro hh; injection hh; omega))
    have Z9 := Lib.hid (Z8.out.grown q6 (by have := GG.out.2; intro hh; injection hh; omega))
    have E9 := Lib.hid (E8.out.grown q6 (fun q hq => by injection hq with hq; have := GG.out.1; omega))
    have F9 := Lib.hid (show OffL B9 ys g7 ∧ OffL B9 ys g2 from ⟨o9.off (.inl Y8.out.lt), o9.off (.inl Z8.out.lt)⟩)
    clear q6 c6 hy o9
    have hLn := rO_len cod_A n o2
    generalize rO pA n o2 = N3 at *
    obtain ⟨L, o3⟩ := N3
    dsimp only at *
    go_wp2_with (first
      | ((with_reducible show wpList _ _ _ ({ dst := none, op := Op.store 38 (.tmp 25) _, type := _, pos := _, after := _, guard := _ } :: _) _ _); refine stF _ rfl 38 _ _ rfl g7 1 (.slice B9 ys.length d9) _ _ rfl rfl Y9.out (by show 1 < 2; decide) size_acl rfl ?_; intro wA hs k5 q5; have YA := Lib.hid (show Arr wA g7 40 #[.int .u64 s, .slice B9 ys.length d9] from k5); have ZA := Lib.hid (Z9.out.grown q5 (by have := G7.out.2.2.1; intro hh; injection hh; omega)); have EA := Lib.hid (E9.out.grown q5 (fun q hq => by injection hq with hq; have := G7.out.1; omega)); have OA := Lib.hid (O9.out.keep q5 F9.out.1); have CA := Lib.hid (C9.out.keep q5 (by have := G7.out.2.1; intro hh; injection hh; omega) (fun ad ha hh => by injection hh with hh; have := G7.out.2.2.2 ad ha; omega)); clear hs k5 q5))
    refine (oerr_calls g B d body o3 _ CA.out).mono ?_
    rintro e wb ⟨⟨er, rfl, her⟩, rfl⟩
    cases o3 with
    | none =>
      have her2 : (er != 0) = true := her
      have HR : Hid (R = ((0, []), 1)) := by
        show _ = _
        rw [HRB.out]
        unfold decB
        have h := HST.out.1
        cases hp : pL body with
        | none => rfl
        | some x => rw [hp] at h; cases h
      clear her
      go_wp2_with (first
        | ((with_reducible show wpList _ _ _ ({ dst := none, op := Op.store 40 (Operand.tmp 2) _, type := _, pos := _, after := _, guard := _ } :: _) _ _); refine stA _ rfl 40 40 _ _ rfl g2 _ #[.int .u64 0, .slice none 0 0] rfl rfl ZA.out size_lg rfl (lg_one 0 _ _ _) ?_; intro wB hs k4 q4; have ZB := Lib.hid k4; have EB := Lib.hid (EA.out.grown q4 (fun q hq => by injection hq with hq; have := G2.out; omega)); clear hs k4 q4))
      exact ret_rowT Tryd.results26 g2 _ _ _ _ rfl rfl ZB.out Tryd.underlying40 rfl size_lg ⟨none, 0, [], by rw [HR.out]; rfl, by rw [HR.out]; rfl, rdl_nil _, by simp, EB.out⟩
    | some r =>
      have her2 : (er != 0) = false := her
      have HP : Hid (pL body = some ((s, L), r)) := by
        show _ = _
        obtain ⟨h, h2⟩ := HST.out
        cases hp : pL body with
        | none => rw [hp] at h; cases h
        | some x =>
          rw [hp] at h
          injection h with h
          have := h2 x hp
          rw [this, h]
      have HRP : Hid (R = if r = [] ∧ rightL L = true then ((s, L), 0) else ((0, []), 2)) := by show _ = _; rw [HRB.out]; unfold decB; rw [HP.out]
      clear her HST HP HRB
      go_wp2_with fail
      refine (oleft_calls g B d body r _ CA.out hob).mono ?_
      rintro e wC ⟨rfl, nd, rfl⟩
      have EC := Lib.hid (EA.out.drewN nd)
      have ZC := Lib.hid (ZA.out.drewN nd)
      have YC := Lib.hid (YA.out.drewN nd)
      have OC := Lib.hid (OA.out.ext ((Ext.refl _).drewN nd))
      generalize wA.drewN nd = wc at *
      have hyl : ys.length ≤ 100000 := by have h := congrArg List.length HY.out; rw [acs_len] at h; omega
      have HGR : Hid (Calls Tryd.prog 45 #[(.agg #[.int .u64 s, .slice B9 ys.length d9])] wc (RetV wc (.bool (rightL L)))) := by
        have h := lgright_calls s B9 d9 ys wc OC.out.rdl (fun x hx => (OC.out.2 x hx).2.1) hyl (HL.out.ext EC.out)
        rwa [HY.out] at h
      obtain ⟨a0, a1⟩ := lg_cells YC.out
      by_cases hr : r = []
      · have HRR2 : Hid (R = if rightL L = true then ((s, L), 0) else ((0, []), 2)) := by show _ = _; rw [HRP.out]; simp [hr]
        have hr0 : ¬ (0 : Int) < (r.length : Int) := by rw [hr]; simp
        have hr1 : decide (0 < r.length) = false := by rw [hr]; rfl
        clear hr HRP
        cases hRL : rightL L with
        | true =>
          have HR2 : Hid (R = ((s, L), 0)) := by show _ = _; rw [HRR2.out, hRL]; rfl
          rw [hRL] at HGR
          clear hRL HRR2
          go_wp2_with (first
            | (go_at_call 45; refine HGR.out.mono ?_; rintro e wD ⟨rfl, e1⟩; have YD := Lib.hid (YC.out.ext e1); have ZD := Lib.hid (ZC.out.ext e1); have OD := Lib.hid (OC.out.ext e1); have ED := Lib.hid (EC.out.trans e1); clear e1 a0 a1)
            | ((with_reducible show wpList _ _ _ ({ dst := some 39, op := Op.load 40 _, type := _, pos := _, after := _, guard := _ } :: _) _ _); refine ldA _ rfl 40 40 _ rfl g7 rfl _ _ YD.out Tryd.underlying40 rfl size_lg ?_)
            | ((with_reducible show wpList _ _ _ ({ dst := none, op := Op.store 40 (Operand.tmp 2) _, type := _, pos := _, after := _, guard := _ } :: _) _ _); refine stA _ rfl 40 40 _ _ rfl g2 _ #[.int .u64 s, .slice B9 ys.length d9] rfl rfl ZD.out size_lg rfl (lg_one _ _ _ _) ?_; intro wE hs k4 q4; have ZE := Lib.hid k4; have EE := Lib.hid (ED.out.grown q4 (fun q hq => by injection hq with hq; have := G2.out; omega)); have OE := Lib.hid (OD.out.keep q4 F9.out.2); clear hs k4 q4))
          exact ret_rowT Tryd.results26 g2 _ _ _ _ rfl rfl ZE.out Tryd.underlying40 rfl size_lg ⟨B9, d9, ys, by rw [HR2.out]; rfl, by rw [HR2.out]; exact HY.out, OE.out.rdl, fun x hx => (OE.out.2 x hx).2.1, EE.out⟩
        | false =>
          have HR2 : Hid (R = ((0, []), 2)) := by show _ = _; rw [HRR2.out, hRL]; rfl
          rw [hRL] at HGR
          clear hRL HRR2
          go_wp2_with (first
            | (go_at_call 45; refine HGR.out.mono ?_; rintro e wD ⟨rfl, e1⟩; have YD := Lib.hid (YC.out.ext e1); have ZD := Lib.hid (ZC.out.ext e1); have ED := Lib.hid (EC.out.trans e1); clear e1 a0 a1)
            | ((with_reducible show wpList _ _ _ ({ dst := none, op := Op.store 40 (Operand.tmp 2) _, type := _, pos := _, after := _, guard := _ } :: _) _ _); refine stA _ rfl 40 40 _ _ rfl g2 _ #[.int .u64 0, .slice none 0 0] rfl rfl ZD.out size_lg rfl (lg_one 0 _ _ _) ?_; intro wE hs k4 q4; have ZE := Lib.hid k4; have EE := Lib.hid (ED.out.grown q4 (fun q hq => by injection hq with hq; have := G2.out; omega)); clear hs k4 q4))
          exact ret_rowT Tryd.results26 g2 _ _ _ _ rfl rfl ZE.out Tryd.underlying40 rfl size_lg ⟨none, 0, [], by rw [HR2.out]; rfl, by rw [HR2.out]; rfl, rdl_nil _, by simp, EE.out⟩
      · have HR2 : Hid (R = ((0, []), 2)) := by show _ = _; rw [HRP.out]; simp [hr]
        have hp : 0 < r.length := List.length_pos_iff.2 hr
        have hr0 : (0 : Int) < (r.length : Int) := by omega
        have hr1 : decide (0 < r.length) = true := decide_eq_true hp
        clear hr HRP hp
        go_wp2_with (first
          | ((with_reducible show wpList _ _ _ ({ dst := none, op := Op.store 40 (Operand.tmp 2) _, type := _, pos := _, after := _, guard := _ } :: _) _ _); refine stA _ rfl 40 40 _ _ rfl g2 _ #[.int .u64 0, .slice none 0 0] rfl rfl ZC.out size_lg rfl (lg_one 0 _ _ _) ?_; intro wE hs k4 q4; have ZE := Lib.hid k4; have EE := Lib.hid (EC.out.grown q4 (fun q hq => by injection hq with hq; have := G2.out; omega)); clear hs k4 q4))
        exact ret_rowT Tryd.results26 g2 _ _ _ _ rfl rfl ZE.out Tryd.underlying40 rfl size_lg ⟨none, 0, [], by rw [HR2.out]; rfl, by rw [HR2.out]; rfl, rdl_nil _, by simp, EE.out⟩

theorem ssealed_calls (A : Option Addr) (c : Nat) (bs : List UInt8) (w : World) (hb : RdB w A bs) (hl : bs.length ≤ 1000000) (hcap : bs.length ≤ c) (hcm : c ≤ 9223372036854775807) :
    Calls Tryd.prog 31 #[.slice A bs.length c] w (RetV w (.bool (openR bs).2)) := by
  have HO : Hid (Calls Tryd.prog 72 #[.slice A bs.length c] w (RetB2 w (openR bs).1 (.bool (openR bs).2))) := open_calls A c bs w hb hl hcap hcm
  clear hb
  go_enter Tryd.func31, Tryd.ntmps31
  go_wp2_with (first
    | (go_at_call 72; refine HO.out.mono ?_; rintro e w3 ⟨B3, c3, rfl, o3, e3⟩; have E3 := Lib.hid e3; clear o3 e3))
  go_ret
  exact ⟨rfl, E3.out⟩
end Go.Proofs.YtkbjnlbbfapgdaaDoor

namespace Go.Proofs.YtkbjnlbbfapgdaaDoor
open Go.RowKit

def nV (ns : List Nat) : Array Value := (ns.map (fun (n : Nat) => Value.int .u64 (n : Int))).toArray
def nB (ns : List Nat) : List UInt8 := ns.flatMap (leB 8)
theorem nB_len (ns : List Nat) : (nB ns).length = ns.length * 8 := flatB_len (fun n => leB_length 8 n) ns
theorem nB_snoc (ns : List Nat) (n : Nat) : nB (ns ++ [n]) = nB ns ++ leB 8 n := by simp [nB]
set_option maxHeartbeats 4000000 in
theorem rnums_calls (base : Nat) (A : Option Addr) (c : Nat) (bs : List UInt8) (gL d : Nat) (ns : List Nat) (w : World) (O : OwnB w base A c bs) (hb : base ≤ w.heap.size) (hl : bs.length ≤ 900000) (H : Arr w gL 22 (nV ns)) (hn : ∀ n ∈ ns, n < 18446744073709551616) (h8 : ns.length ≤ 8) :
    Calls Tryd.prog 81 #[.slice A bs.length c, .slice (some ⟨gL, 0, none⟩) ns.length d] w (RetP w base (bs ++ nB ns)) := by
  have HO := Lib.hid O
  have HB := Lib.hid hb
  have HH := Lib.hid H
  have HN := Lib.hid hn
  clear O hb H hn
  go_enter Tryd.func81, Tryd.ntmps81
  go_wp2_with fail
  go_loopw [0, 5] (fun b i wr => ∃ k : Nat, ∃ A' c' ys, k ≤ ns.length ∧ i = .int .i64 k ∧ b = .slice A' (List.length ys) c' ∧ ys = bs ++ nB (ns.take k) ∧ OwnB wr base A' c' ys ∧ KP base w wr) (fun _ i _ => ns.length - (intOf i).toNat)
  case atStart => exact ⟨0, A, c, bs, by omega, rfl, rfl, by simp [nB], HO.out, KP.refl _ _⟩
  case round =>
    obtain ⟨k, A', c', ys, hk, rfl, rfl, hys, ho, hkp⟩ := hrel
    have HYS := Lib.hid hys
    have OB := Lib.hid ho
    have KK := Lib.hid hkp
    have BB : Hid (base ≤ wr.heap.size) := Nat.le_trans HB.out hkp.2.1
    have hyl : ys.length ≤ 900100 := by rw [hys, List.length_append, nB_len, List.length_take]; omega
    clear hys ho hkp
    by_cases hlt : k < ns.length
    · have k1 : (k : Int) < (ns.length : Int) := by omega
      have z0 : wr.cell? ⟨gL, k, none⟩ = some (.int .u64 ns[k]) := by
        rw [(KK.out.1 _ _ _ (by decide) HH.out).cell]
        simp [nV, hlt]
      have hz := HN.out _ (List.getElem_mem hlt)
      have HTK : Hid (nB (ns.take (k + 1)) = nB (ns.take k) ++ leB 8 ns[k]) := by show _ = _; rw [List.take_succ_eq_append_getElem hlt, nB_snoc]
      generalize ns[k] = z at *
      go_wp2_with fail
      refine (bytes_calls 8 z _ (by omega) hz).mono ?_
      rintro e w2 ⟨B, f, rfl, o2, e2⟩
      have O2 := Lib.hid o2
      have E2 := Lib.hid e2
      have HL8 : Hid ((leB 8 z).length = 8) := leB_length 8 z
      clear o2 e2 z0 hz
      generalize leB 8 z = x at *
      go_wp2_with (first
        | (at_builtin; refine appB _ rfl (.tmp 12) (.tmp 17) rfl base A' c' ys rfl B f x rfl ?_ (OB.out.ext E2.out) O2.out.rd (by have := HL8.out; omega) (Nat.le_trans BB.out E2.out.size); intro A3 c3 w3 h1 h2 h3; have O3 := Lib.hid h1; have K3 := Lib.hid ((KK.out.trans (KP.ext E2.out)).trans (KP.own (OB.out.ext E2.out) h2)); clear h1 h2 h3))
      go_roundw
      case rel => exact ⟨k + 1, A3, c3, ys ++ x, by omega, by go_num, (by simp), by rw [HYS.out, HTK.out, List.append_assoc], O3.out, K3.out⟩
      case measure => simp [intOf]; omega
    · have k1 : ¬ (k : Int) < (ns.length : Int) := by omega
      have HF : Hid (ys = bs ++ nB ns) := by show _ = _; rw [HYS.out, List.take_of_length_le (by omega)]
      go_wp2_with fail
      go_ret
      rw [← HF.out]
      exact ⟨A', c', rfl, OB.out, KK.out⟩

set_option maxHeartbeats 4000000 in
theorem rtext17 (ten : ByteArray) (w : World) (hz : ten.size ≤ 1000000) :
    Calls Tryd.prog 80 #[.int .i64 1, .string ten] w (RetB w (leB 1 ten.size ++ ten.data.toList)) := by
  have u1 : IntKind.u64.wrap (ten.size : Int) = (ten.size : Int) := IntWalk.u64_in _ (by omega)
  have HL1 : Hid ((leB 1 ten.size).length = 1) := leB_length _ _
  have HP : Hid (∀ W, Calls Tryd.prog 79 #[.int .i64 1, .int .u64 ten.size] W (RetB W (leB 1 ten.size))) := fun W => bytes_calls 1 ten.size W (by omega) (by omega)
  generalize leB 1 ten.size = x at *
  go_enter Tryd.func80, Tryd.ntmps80
  go_wp2_with (first
    | (go_at_call 79; refine (HP.out _).mono ?_; rintro e w2 ⟨B, f, rfl, o2, e2⟩; have O2 := Lib.hid o2; have E2 := Lib.hid e2; clear o2 e2)
    | (at_builtin; refine appS _ rfl (.tmp 9) (.tmp 10) rfl w.heap.size B f x rfl ten rfl ?_ O2.out (by have := HL1.out; omega) E2.out.size; intro A3 c3 w3 h1 h2; have O3 := Lib.hid h1; have E3 := Lib.hid (E2.out.grown h2 (fun k hk => (O2.out.base_ k hk).1)); clear h1 h2))
  go_ret
  exact ⟨A3, c3, (by simp; try rfl), O3.out, E3.out⟩

/-- the leases' and statements' own bytes, as numbers -/
theorem nB_lz (l : Lz) : nB [l.id, l.sz] = leB 8 l.id ++ leB 8 l.sz := by simp [nB]
theorem nB_st (s : St) : nB [s.used, s.cap, s.bits] = leB 8 s.used ++ leB 8 s.cap ++ leB 8 s.bits := by simp [nB]
set_option maxHeartbeats 32000000 in
theorem rbytes17_calls (seq : Nat) (A : Option Addr) (c : Nat) (xs : List Ax) (w : World) (hs : seq < 18446744073709551616) (hb : RdL w A xs) (hok : ∀ x ∈ xs, x.a.ok) (hsm : ∀ a ∈ acs xs, small a) (hl : xs.length ≤ 12) :
    Calls Tryd.prog 28 #[(.agg #[.int .u64 seq, .slice A xs.length c])] w (RetB w (snapB seq (acs xs))) := by
  have HB := Lib.hid hb
  have HOK := Lib.hid hok
  have HSM : Hid (∀ x ∈ xs, small x.a) := fun x hx => hsm x.a (List.mem_map_of_mem hx)
  have HLE : Hid (∀ k, (encAs ((acs xs).take k)).length ≤ 61200) := fun k => by
    have h1 := encAs_le (l := (acs xs).take k) (fun a ha => hsm a (List.mem_of_mem_take ha))
    have h2 : ((acs xs).take k).length ≤ 12 := by rw [List.length_take, acs_len]; omega
    omega
  have HAL : Hid ((acs xs).length = xs.length) := acs_len xs
  have u1 : IntKind.u64.wrap (xs.length : Int) = (xs.length : Int) := IntWalk.u64_in _ (by omega)
  have H8 : Hid (∀ W, Calls Tryd.prog 79 #[.int .i64 8, .int .u64 seq] W (RetB W (leB 8 seq))) := fun W => bytes_calls 8 seq W (by omega) hs
  have H1 : Hid (∀ W, Calls Tryd.prog 79 #[.int .i64 1, .int .u64 xs.length] W (RetB W (leB 1 xs.length))) := fun W => bytes_calls 1 xs.length W (by omega) (by omega)
  obtain ⟨base, hbase⟩ : ∃ base, base = w.heap.size := ⟨_, rfl⟩
  have HBS : Hid (base ≤ w.heap.size ∧ w.heap.size ≤ base) := ⟨by omega, by omega⟩
  have HL8 : Hid ((leB 8 seq).length = 8) := leB_length 8 seq
  have HL1 : Hid ((leB 1 xs.length).length = 1) := leB_length 1 _
  have HEL : Hid (encL seq (acs xs) = leB 8 seq ++ leB 1 xs.length ++ encAs (acs xs)) := by show _ = _; unfold encL; rw [HAL.out]
  clear hb hok hsm hs hbase
  generalize leB 8 seq = s1 at *
  generalize leB 1 xs.length = s2 at *
  go_enter Tryd.func28, Tryd.ntmps28
  go_wp2_with (first
    | ((with_reducible show wpList _ _ _ ({ dst := some 1, op := Op.box 40 _, type := _, pos := _, after := _, guard := _ } :: _) _ _); refine bxA _ rfl 40 _ rfl _ rfl ?_; intro g1 wA hg hs1 k1 e1; have X1 := Lib.hid k1; have E1 := Lib.hid e1; obtain ⟨a0, a1⟩ := lg_cells k1; clear hg hs1 k1 e1)
    | (go_at_call_of 79 (Value.int .i64 8); refine (H8.out _).mono ?_; rintro e w2 ⟨B, f, rfl, o2, e2⟩; have O2 := Lib.hid (o2.lower (base' := base) (by have := HBS.out; have := E1.out.size; omega)); have K2 := Lib.hid (KP.ext (base := base) e2); have X2 := Lib.hid (X1.out.ext e2); clear o2 e2 a0 a1; obtain ⟨a0, a1⟩ := lg_cells X2.out)
    | (go_at_call_of 79 (Value.int .i64 1); refine (H1.out _).mono ?_; rintro e w3 ⟨C, d, rfl, o3, e3⟩; have O3 := Lib.hid o3; have P2 := Lib.hid (O2.out.ext e3); have K3 := Lib.hid (K2.out.trans (KP.ext e3)); clear o3 e3 a0 a1)
    | (at_builtin; refine appB _ rfl (.tmp 11) (.tmp 16) rfl base B f s1 rfl C d s2 rfl ?_ P2.out O3.out.rd (by have := HL8.out; have := HL1.out; omega) (by have := HBS.out; have := E1.out.size; have := K3.out.2.1; omega); intro A4 c4 w4 h1 h2 h3; obtain ⟨s3, hs3⟩ : ∃ v, v = s1 ++ s2 := ⟨_, rfl⟩; rw [← hs3]; rw [← hs3] at h1; have HS3 := Lib.hid hs3; clear hs3; have O4 := Lib.hid h1; have K4 := Lib.hid (K3.out.trans (KP.own P2.out h2)); clear h1 h2 h3))
  have L4 : Hid (s3.length = 9) := by show _ = _; rw [HS3.out, List.length_append, HL8.out, HL1.out]
  have D4 : Hid (base ≤ w4.heap.size) := by show _ ≤ _; have := HBS.out; have := E1.out.size; have := K4.out.2.1; omega
  clear H8 H1 O2 K2 X2 O3 P2 K3
  go_loopw [3, 4] (fun b i wr => ∃ k : Nat, ∃ A' c' ys, k ≤ xs.length ∧ i = .int .i64 k ∧ b = .slice A' (List.length ys) c' ∧ ys = s3 ++ encAs ((acs xs).take k) ∧ OwnB wr base A' c' ys ∧ base ≤ wr.heap.size ∧ KP base wA wr) (fun _ i _ => xs.length - (intOf i).toNat)
  case atStart => exact ⟨0, A4, c4, s3, by omega, rfl, rfl, by simp [encAs], O4.out, D4.out, K4.out⟩
  case round =>
    obtain ⟨k, A0, c0, y0, hk, rfl, rfl, hys, ho, hbb, hkp⟩ := hrel
    have HYS := Lib.hid hys
    have OB := Lib.hid ho
    have DB := Lib.hid hbb
    have KK := Lib.hid hkp
    have X0 := Lib.hid (hkp.1 _ _ _ (by decide) X1.out)
    have hyl : y0.length ≤ 70000 := by rw [hys, List.length_append]; have := L4.out; have := HLE.out k; omega
    have HYL := Lib.hid hyl
    have EW := Lib.hid (hkp.2.2 w E1.out HBS.out.2)
    clear hys ho hbb hkp hyl
    obtain ⟨a0, a1⟩ := lg_cells X0.out
    by_cases hlt : k < xs.length
    · have k1 : (k : Int) < (xs.length : Int) := by omega
      have hsx := HSM.out _ (List.getElem_mem hlt)
      have hox := HOK.out _ (List.getElem_mem hlt)
      have HXR := Lib.hid (HB.out.each _ (List.getElem_mem hlt)).rd
      obtain ⟨ad, rfl, x0, x1, x2, x3, x4, x5, x6⟩ := (HB.out.rd.ext EW.out).seven hlt
      have HTK : Hid (encAs ((acs xs).take (k + 1)) = encAs ((acs xs).take k) ++ encA xs[k].a) := by
        show _ = _
        rw [List.take_succ_eq_append_getElem (by rw [acs_len]; exact hlt), encAs_snoc, ax_get hlt]
      generalize xs[k] = x at *
      have HOX := Lib.hid hox
      have HSX := Lib.hid hsx
      clear hsx hox
      go_upto_region 7 with (first
        | ((with_reducible show wpList _ _ _ ({ dst := some 5, op := Op.alloc 26, type := _, pos := _, after := _, guard := _ } :: _) _ _); refine alA _ rfl 26 rfl _ _ zero_acct ?_; intro g5 w6 hg hs1 k3 e3; have Y6 := Lib.hid k3; have T6 := Lib.hid e3; have G6 := Lib.hid (Nat.le_of_eq hg); clear hg hs1 k3 e3 x0 x1 x2 x3 x4 x5 x6 a0 a1)
        | ((with_reducible show wpList _ _ _ ({ dst := none, op := Op.store 26 _ _, type := _, pos := _, after := _, guard := _ } :: _) _ _); refine stA _ rfl 26 26 _ _ rfl g5 _ (acV x.a x.AL x.cL x.AC x.cC) rfl rfl Y6.out size_acct rfl (ac_one _ _ _ _ _) ?_; intro w7 hs k4 g4; have T7 := Lib.hid (show Ext wr w7 from T6.out.grown g4 (fun k hk => by injection hk with hk; have := G6.out; omega)); have Y0 := Lib.hid k4; obtain ⟨x0, x1, x2, x3, x4, x5, x6⟩ := ac_cells k4; clear hs k4 g4))
      have O0 := Lib.hid (OB.out.ext T7.out)
      have K0 := Lib.hid (KK.out.trans (KP.ext T7.out))
      have D0 : Hid (base ≤ w7.heap.size) := Nat.le_trans DB.out T7.out.size
      have L0 : Hid (y0.length ≤ 70000) := HYL.out
      obtain ⟨q1, q2, q3⟩ := HSX.out
      have r1 := HOX.out.2.1
      have r2 := HOX.out.2.2.1
      have r3 := HOX.out.2.2.2.1
      have HQ := Lib.hid (show x.a.ls.length ≤ 100 ∧ x.a.cl.length ≤ 100 ∧ x.a.ten.size ≤ 1000 from ⟨q1, q2, q3⟩)
      have u2 : IntKind.u64.wrap (x.a.ls.length : Int) = (x.a.ls.length : Int) := IntWalk.u64_in _ (by omega)
      have u3 : IntKind.u64.wrap (x.a.cl.length : Int) = (x.a.cl.length : Int) := IntWalk.u64_in _ (by omega)
      have HT0 : Hid (∀ W, Calls Tryd.prog 80 #[.int .i64 1, .string x.a.ten] W (RetB W (leB 1 x.a.ten.size ++ x.a.ten.data.toList))) := fun W => rtext17 x.a.ten W (by have := HQ.out; omega)
      have HT2 : Hid (∀ W, Calls Tryd.prog 79 #[.int .i64 2, .int .u64 x.a.ls.length] W (RetB W (leB 2 x.a.ls.length))) := fun W => bytes_calls 2 x.a.ls.length W (by omega) (by have := HQ.out; omega)
      have HT4 : Hid (∀ W, Calls Tryd.prog 79 #[.int .i64 4, .int .u64 x.a.cl.length] W (RetB W (leB 4 x.a.cl.length))) := fun W => bytes_calls 4 x.a.cl.length W (by omega) (by have := HQ.out; omega)
      go_wp2_with fail
      refine (HT0.out _).mono ?_
      rintro e v0 ⟨B0, f0, rfl, o, q⟩
      have Q0 := Lib.hid o
      have T0 := Lib.hid q
      have HX0 : Hid ((leB 1 x.a.ten.size ++ x.a.ten.data.toList).length ≤ 1001) := by show _ ≤ _; have := HQ.out.2.2; rw [List.length_append, leB_length]; have : x.a.ten.data.toList.length = x.a.ten.size := rfl; omega
      generalize hx0 : leB 1 x.a.ten.size ++ x.a.ten.data.toList = z0 at *
      have HZ0 : Hid (leB 1 x.a.ten.size ++ x.a.ten.data.toList = z0) := hx0
      clear o q hx0 x0 x1 x2 x3 x4 x5 x6
      go_wp2_with (at_builtin; refine appB _ rfl (.tmp 30) (.tmp 33) rfl base A0 c0 y0 rfl B0 f0 z0 rfl ?_ (O0.out.ext T0.out) Q0.out.rd (by have := HX0.out; have := L0.out; omega) (Nat.le_trans D0.out T0.out.size); intro A1 c1 w1 h1 h2 h3; obtain ⟨y1, hy⟩ : ∃ v, v = y0 ++ z0 := ⟨_, rfl⟩; rw [← hy]; rw [← hy] at h1; have HY1 := Lib.hid hy.symm; clear hy; have O1 := Lib.hid h1; have K1 := Lib.hid ((K0.out.trans (KP.ext T0.out)).trans (KP.own (O0.out.ext T0.out) h2)); have D1 : Hid (base ≤ w1.heap.size) := Nat.le_trans (Nat.le_trans D0.out T0.out.size) h2.size; have Y1 := Lib.hid ((KP.own (O0.out.ext T0.out) h2).1 _ _ _ (by decide) (Y0.out.ext T0.out)); clear h1 h2 h3; obtain ⟨x0, x1, x2, x3, x4, x5, x6⟩ := ac_cells Y1.out)
      have L1 : Hid (y1.length ≤ 72000) := by show _ ≤ _; rw [← HY1.out, List.length_append]; have := L0.out; have := HX0.out; omega
      go_wp2_with fail
      refine (rnums_calls base A1 c1 y1 w1.heap.size 3 [x.a.cap, x.a.used, x.a.bits] _ (O1.out.ext ((Ext.refl _).alloc _)) (Nat.le_trans D1.out ((Ext.refl _).alloc _).size) (by have := L1.out; omega) (Arr.new _ _ _) (by intro n hn; simp at hn; rcases hn with rfl | rfl | rfl <;> assumption) (by simp)).mono ?_
      rintro e w2 ⟨A2, c2, rfl, o, q⟩
      have K2 := Lib.hid ((K1.out.trans (KP.ext ((Ext.refl _).alloc _))).trans q)
      have D2 : Hid (base ≤ w2.heap.size) := Nat.le_trans (Nat.le_trans D1.out ((Ext.refl _).alloc _).size) q.2.1
      have O2 := Lib.hid o
      have Y2 := Lib.hid (q.1 _ _ _ (by decide) (Y1.out.ext ((Ext.refl _).alloc _)))
      generalize hy : y1 ++ nB [x.a.cap, x.a.used, x.a.bits] = y2 at *
      have HY2 : Hid (y1 ++ nB [x.a.cap, x.a.used, x.a.bits] = y2) := hy
      clear o q hy
      have L2 : Hid (y2.length ≤ 72100) := by show _ ≤ _; rw [← HY2.out, List.length_append, nB_len]; have := L1.out; simp; omega
      clear x0 x1 x2 x3 x4 x5 x6
      obtain ⟨x0, x1, x2, x3, x4, x5, x6⟩ := ac_cells Y2.out
      go_wp2_with fail
      refine (HT2.out _).mono ?_
      rintro e v2 ⟨B2, f2, rfl, o, q⟩
      have Q2 := Lib.hid o
      have T2 := Lib.hid q
      have HX2 : Hid ((leB 2 x.a.ls.length).length ≤ 8) := by show _ ≤ _; rw [leB_length]; omega
      generalize hx2 : leB 2 x.a.ls.length = z2 at *
      have HZ2 : Hid (leB 2 x.a.ls.length = z2) := hx2
      clear o q hx2 x0 x1 x2 x3 x4 x5 x6
      go_wp2_with (at_builtin; refine appB _ rfl (.tmp 44) (.tmp 49) rfl base A2 c2 y2 rfl B2 f2 z2 rfl ?_ (O2.out.ext T2.out) Q2.out.rd (by have := HX2.out; have := L2.out; omega) (Nat.le_trans D2.out T2.out.size); intro A3 c3 w3 h1 h2 h3; obtain ⟨y3, hy⟩ : ∃ v, v = y2 ++ z2 := ⟨_, rfl⟩; rw [← hy]; rw [← hy] at h1; have HY3 := Lib.hid hy.symm; clear hy; have O3 := Lib.hid h1; have K3 := Lib.hid ((K2.out.trans (KP.ext T2.out)).trans (KP.own (O2.out.ext T2.out) h2)); have D3 : Hid (base ≤ w3.heap.size) := Nat.le_trans (Nat.le_trans D2.out T2.out.size) h2.size; have Y3 := Lib.hid ((KP.own (O2.out.ext T2.out) h2).1 _ _ _ (by decide) (Y2.out.ext T2.out)); clear h1 h2 h3; obtain ⟨x0, x1, x2, x3, x4, x5, x6⟩ := ac_cells Y3.out)
      have L3 : Hid (y3.length ≤ 72200) := by show _ ≤ _; rw [← HY3.out, List.length_append]; have := L2.out; have := HX2.out; omega
      clear x0 x1 x2 x3 x4 x5 x6
      obtain ⟨wq5, hwq5⟩ : ∃ v, v = w3 := ⟨_, rfl⟩
      go_loopw [3, 6] (fun b i wr => ∃ k2 : Nat, ∃ A' c' zs, k2 ≤ x.a.ls.length ∧ i = .int .i64 k2 ∧ b = .slice A' (List.length zs) c' ∧ zs = y3 ++ encLs (x.a.ls.take k2) ∧ OwnB wr base A' c' zs ∧ base ≤ wr.heap.size ∧ KP base wA wr ∧ Arr wr g5 26 (acV x.a x.AL x.cL x.AC x.cC)) (fun _ i _ => x.a.ls.length - (intOf i).toNat)
      case atStart => exact ⟨0, A3, c3, y3, Nat.zero_le _, rfl, rfl, by simp [encLs], O3.out, D3.out, K3.out, Y3.out⟩
      case round =>
        obtain ⟨k2, A5, c5, y5, hk2, rfl, rfl, hys, ho, hbb, hkp, hY⟩ := hrel
        have HYZ5 := Lib.hid hys
        have O5 := Lib.hid ho
        have D5 := Lib.hid hbb
        have K5 := Lib.hid hkp
        have Y5 := Lib.hid hY
        have L5 : Hid (y5.length ≤ 80000) := by show _ ≤ _; rw [hys, List.length_append, encLs_len, List.length_take]; have := L3.out; have := HQ.out; omega
        have EW5 := Lib.hid (hkp.2.2 w E1.out HBS.out.2)
        clear hys ho hbb hkp hY
        obtain ⟨x0, x1, x2, x3, x4, x5, x6⟩ := ac_cells Y5.out
        by_cases hlt2 : k2 < x.a.ls.length
        · have k3 : (k2 : Int) < (x.a.ls.length : Int) := by omega
          have hz := HOX.out.2.2.2.2.2.1 _ (List.getElem_mem hlt2)
          have HTK2 : Hid (encLs (x.a.ls.take (k2 + 1)) = encLs (x.a.ls.take k2) ++ nB [x.a.ls[k2].id, x.a.ls[k2].sz]) := by show _ = _; rw [List.take_succ_eq_append_getElem hlt2, encLs_snoc]; simp [nB]
          go_wp2_with fail
          obtain ⟨ad2, hAL, z0, z1⟩ := (HXR.out.1.ext EW5.out).two hlt2
          have HAL2 := Lib.hid hAL
          generalize hzz : x.a.ls[k2] = z at *
          have HZZ := Lib.hid hzz
          have KS : Hid (∀ W, KP base wr W → KP base wr W ∧ W.cell? ⟨g5, 5, none⟩ = some (.slice (some ad2) x.a.ls.length x.cL) ∧ W.cell? (ad2.add (k2 * 2)) = some (.int .u64 z.id) ∧ W.cell? ⟨(ad2.add (k2 * 2)).block, (ad2.add (k2 * 2)).off + 1, none⟩ = some (.int .u64 z.sz)) := fun W q => by
            have h1 := (ac_cells (q.1 _ _ _ (by decide) Y5.out)).2.2.2.2.2.1
            rw [HAL2.out] at h1
            obtain ⟨ad', h', t0, t1⟩ := (HXR.out.1.ext (q.2.2 w EW5.out HBS.out.2)).two hlt2
            rw [HAL2.out] at h'
            cases h'
            rw [HZZ.out] at t0 t1
            exact ⟨q, h1, t0, t1⟩
          clear hAL hzz x0 x1 x2 x3 x4 x5 x6 z0 z1
          obtain ⟨hz1, hz2⟩ := hz
          go_region_held3 (fun W => KP base wr W ∧ W.cell? ⟨g5, 5, none⟩ = some (.slice (some ad2) x.a.ls.length x.cL) ∧ W.cell? (ad2.add (k2 * 2)) = some (.int .u64 z.id) ∧ W.cell? ⟨(ad2.add (k2 * 2)).block, (ad2.add (k2 * 2)).off + 1, none⟩ = some (.int .u64 z.sz)) (first | with_reducible exact KS.out _ (KP.ext (Ext.refl _).drew) | with_reducible exact KS.out _ (KP.ext ((Ext.refl _).drew.alloc _)) | with_reducible exact KS.out _ (by with_reducible assumption)) ((go_at_call 81; refine (rnums_calls base A5 c5 y5 _ 2 [z.id, z.sz] _ (O5.out.ext ((Ext.refl _).drew.alloc _)) (Nat.le_trans D5.out ((Ext.refl wr).drew.alloc _).size) (by have := L5.out; omega) (Arr.new _ _ _) (by intro n hn; simp at hn; rcases hn with rfl | rfl <;> assumption) (by simp)).mono ?_; rintro e wn ⟨An, cn, rfl, o, q⟩; have TN : KP base wr wn := (KP.ext ((Ext.refl wr).drew.alloc _)).trans q; have On := Lib.hid o; generalize hy : y5 ++ nB [z.id, z.sz] = yn at *; have HYn : Hid (y5 ++ nB [z.id, z.sz] = yn) := hy; clear o q hy))
          have Kn := Lib.hid (K5.out.trans TN)
          have Dn : Hid (base ≤ wn.heap.size) := Nat.le_trans D5.out TN.2.1
          have Yn := Lib.hid (TN.1 _ _ _ (by decide) Y5.out)
          clear TN
          go_wp2_with fail
          go_roundw
          case rel => exact ⟨k2 + 1, An, cn, yn, by omega, by go_num, rfl, by rw [← HYn.out, HYZ5.out, HTK2.out, List.append_assoc], On.out, Dn.out, Kn.out, Yn.out⟩
          case measure => simp [intOf]; omega
        · have k3 : ¬ (k2 : Int) < (x.a.ls.length : Int) := by omega
          obtain rfl : k2 = x.a.ls.length := by omega
          rw [List.take_of_length_le (Nat.le_refl _)] at HYZ5
          go_wp2_with fail
          refine (HT4.out _).mono ?_
          rintro e v5 ⟨B5, f5, rfl, o, q⟩
          have Q5 := Lib.hid o
          have T5 := Lib.hid q
          have HX5 : Hid ((leB 4 x.a.cl.length).length ≤ 8) := by show _ ≤ _; rw [leB_length]; omega
          generalize hx5 : leB 4 x.a.cl.length = z5 at *
          have HZ5 : Hid (leB 4 x.a.cl.length = z5) := hx5
          clear o q hx5 x0 x1 x2 x3 x4 x5 x6
          go_wp2_with (at_builtin; refine appB _ rfl (.tmp 73) (.tmp 78) rfl base A5 c5 y5 rfl B5 f5 z5 rfl ?_ (O5.out.ext T5.out) Q5.out.rd (by have := HX5.out; have := L5.out; omega) (Nat.le_trans D5.out T5.out.size); intro A6 c6 w6 h1 h2 h3; obtain ⟨y6, hy⟩ : ∃ v, v = y5 ++ z5 := ⟨_, rfl⟩; rw [← hy]; rw [← hy] at h1; have HY6 := Lib.hid hy.symm; clear hy; have O6 := Lib.hid h1; have K6 := Lib.hid ((K5.out.trans (KP.ext T5.out)).trans (KP.own (O5.out.ext T5.out) h2)); have D6 : Hid (base ≤ w6.heap.size) := Nat.le_trans (Nat.le_trans D5.out T5.out.size) h2.size; have Y6 := Lib.hid ((KP.own (O5.out.ext T5.out) h2).1 _ _ _ (by decide) (Y5.out.ext T5.out)); clear h1 h2 h3; obtain ⟨x0, x1, x2, x3, x4, x5, x6⟩ := ac_cells Y6.out)
          have L6 : Hid (y6.length ≤ 80100) := by show _ ≤ _; rw [← HY6.out, List.length_append]; have := L5.out; have := HX5.out; omega
          clear x0 x1 x2 x3 x4 x5 x6
          obtain ⟨wq8, hwq8⟩ : ∃ v, v = w6 := ⟨_, rfl⟩
          go_loopw [3, 7] (fun b i wr => ∃ k2 : Nat, ∃ A' c' zs, k2 ≤ x.a.cl.length ∧ i = .int .i64 k2 ∧ b = .slice A' (List.length zs) c' ∧ zs = y6 ++ encCl (x.a.cl.take k2) ∧ OwnB wr base A' c' zs ∧ base ≤ wr.heap.size ∧ KP base wA wr ∧ Arr wr g5 26 (acV x.a x.AL x.cL x.AC x.cC)) (fun _ i _ => x.a.cl.length - (intOf i).toNat)
          case atStart => exact ⟨0, A6, c6, y6, Nat.zero_le _, rfl, rfl, by simp [encCl], O6.out, D6.out, K6.out, Y6.out⟩
          case round =>
            obtain ⟨k2, A8, c8, y8, hk2, rfl, rfl, hys, ho, hbb, hkp, hY⟩ := hrel
            have HYZ8 := Lib.hid hys
            have O8 := Lib.hid ho
            have D8 := Lib.hid hbb
            have K8 := Lib.hid hkp
            have Y8 := Lib.hid hY
            have L8 : Hid (y8.length ≤ 100000) := by show _ ≤ _; rw [hys, List.length_append, encCl_len, List.length_take]; have := L6.out; have := HQ.out; omega
            have EW8 := Lib.hid (hkp.2.2 w E1.out HBS.out.2)
            clear hys ho hbb hkp hY
            obtain ⟨x0, x1, x2, x3, x4, x5, x6⟩ := ac_cells Y8.out
            by_cases hlt2 : k2 < x.a.cl.length
            · have k3 : (k2 : Int) < (x.a.cl.length : Int) := by omega
              have hz := HOX.out.2.2.2.2.2.2.1 _ (List.getElem_mem hlt2)
              have HTK2 : Hid (encCl (x.a.cl.take (k2 + 1)) = encCl (x.a.cl.take k2) ++ nB [x.a.cl[k2].used, x.a.cl[k2].cap, x.a.cl[k2].bits]) := by show _ = _; rw [List.take_succ_eq_append_getElem hlt2, encCl_snoc]; simp [nB]
              go_wp2_with fail
              obtain ⟨ad2, hAL, z0, z1, z2, z3, z4, z5⟩ := (HXR.out.2.ext EW8.out).six hlt2
              have HAL2 := Lib.hid hAL
              generalize hzz : x.a.cl[k2] = z at *
              have HZZ := Lib.hid hzz
              have KS : Hid (∀ W, KP base wr W → KP base wr W ∧ W.cell? ⟨g5, 6, none⟩ = some (.slice (some ad2) x.a.cl.length x.cC) ∧ W.cell? ⟨(ad2.add (k2 * 6)).block, (ad2.add (k2 * 6)).off + 2, none⟩ = some (.int .u64 z.used) ∧ W.cell? ⟨(ad2.add (k2 * 6)).block, (ad2.add (k2 * 6)).off + 3, none⟩ = some (.int .u64 z.cap) ∧ W.cell? ⟨(ad2.add (k2 * 6)).block, (ad2.add (k2 * 6)).off + 4, none⟩ = some (.int .u64 z.bits)) := fun W q => by
                have h1 := (ac_cells (q.1 _ _ _ (by decide) Y8.out)).2.2.2.2.2.2
                rw [HAL2.out] at h1
                obtain ⟨ad', h', t0, t1, t2, t3, t4, t5⟩ := (HXR.out.2.ext (q.2.2 w EW8.out HBS.out.2)).six hlt2
                rw [HAL2.out] at h'
                cases h'
                rw [HZZ.out] at t0 t1 t2 t3 t4 t5
                exact ⟨q, h1, t2, t3, t4⟩
              clear hAL hzz x0 x1 x2 x3 x4 x5 x6 z0 z1 z2 z3 z4 z5
              obtain ⟨_, hz1, hz2, hz3, _⟩ := hz
              go_region_held3 (fun W => KP base wr W ∧ W.cell? ⟨g5, 6, none⟩ = some (.slice (some ad2) x.a.cl.length x.cC) ∧ W.cell? ⟨(ad2.add (k2 * 6)).block, (ad2.add (k2 * 6)).off + 2, none⟩ = some (.int .u64 z.used) ∧ W.cell? ⟨(ad2.add (k2 * 6)).block, (ad2.add (k2 * 6)).off + 3, none⟩ = some (.int .u64 z.cap) ∧ W.cell? ⟨(ad2.add (k2 * 6)).block, (ad2.add (k2 * 6)).off + 4, none⟩ = some (.int .u64 z.bits)) (first | with_reducible exact KS.out _ (KP.ext (Ext.refl _).drew) | with_reducible exact KS.out _ (KP.ext ((Ext.refl _).drew.alloc _)) | with_reducible exact KS.out _ (by with_reducible assumption)) ((go_at_call 81; refine (rnums_calls base A8 c8 y8 _ 3 [z.used, z.cap, z.bits] _ (O8.out.ext ((Ext.refl _).drew.alloc _)) (Nat.le_trans D8.out ((Ext.refl wr).drew.alloc _).size) (by have := L8.out; omega) (Arr.new _ _ _) (by intro n hn; simp at hn; rcases hn with rfl | rfl | rfl <;> assumption) (by simp)).mono ?_; rintro e wn ⟨An, cn, rfl, o, q⟩; have TN : KP base wr wn := (KP.ext ((Ext.refl wr).drew.alloc _)).trans q; have On := Lib.hid o; generalize hy : y8 ++ nB [z.used, z.cap, z.bits] = yn at *; have HYn : Hid (y8 ++ nB [z.used, z.cap, z.bits] = yn) := hy; clear o q hy))
              have Kn := Lib.hid (K8.out.trans TN)
              have Dn : Hid (base ≤ wn.heap.size) := Nat.le_trans D8.out TN.2.1
              have Yn := Lib.hid (TN.1 _ _ _ (by decide) Y8.out)
              clear TN
              go_wp2_with fail
              go_roundw
              case rel => exact ⟨k2 + 1, An, cn, yn, by omega, by go_num, rfl, by rw [← HYn.out, HYZ8.out, HTK2.out, List.append_assoc], On.out, Dn.out, Kn.out, Yn.out⟩
              case measure => simp [intOf]; omega
            · have k3 : ¬ (k2 : Int) < (x.a.cl.length : Int) := by omega
              obtain rfl : k2 = x.a.cl.length := by omega
              rw [List.take_of_length_le (Nat.le_refl _)] at HYZ8
              go_wp2_with fail
              go_roundw
              case rel => exact ⟨k + 1, A8, c8, y8, by omega, by go_num, rfl, by rw [HTK.out, HYZ8.out, ← HY6.out, HYZ5.out, ← HY3.out, ← HY2.out, ← HY1.out, HYS.out, ← HZ0.out, ← HZ2.out, ← HZ5.out]; simp [encA, nB], O8.out, D8.out, K8.out⟩
              case measure => simp [intOf]; omega
    · have k1 : ¬ (k : Int) < (xs.length : Int) := by omega
      obtain rfl : k = xs.length := by omega
      have HFIN : Hid (y0 = encL seq (acs xs)) := by show _ = _; rw [HYS.out, HEL.out, HS3.out, List.take_of_length_le (by rw [HAL.out]; omega)]
      go_wp2_with fail
      refine (rseal_calls A0 c0 y0 _ OB.out.rd (by have := HYL.out; omega)).mono ?_
      rintro e w9 ⟨A9, c9, rfl, o, q⟩
      have O9 := Lib.hid o
      have E9 := Lib.hid q
      rw [HFIN.out] at O9
      rw [HFIN.out]
      have HSN : Hid (sealB (encL seq (acs xs)) = snapB seq (acs xs)) := rfl
      rw [HSN.out] at O9
      rw [HSN.out]
      clear o q a0 a1
      go_wp2_with fail
      go_ret
      exact ⟨A9, c9, rfl, O9.out.lower (by have := DB.out; have := HBS.out; omega), EW.out.trans E9.out⟩
end Go.Proofs.YtkbjnlbbfapgdaaDoor

namespace Go.Proofs.YtkbjnlbbfapgdaaDoor
open Go.RowKit

/-- a right ledger is read back -/
theorem lg_back {seq : Nat} {l : List Ac} (hs : seq < 18446744073709551616) (hl : l.length ≤ 12) (hr : rightL l = true) (hok : ∀ a ∈ l, a.ok ∧ a.ls.length ≤ 100) (t : List UInt8) : pL (encL seq l ++ t) = some ((seq, l), t) := by
  refine cod_L.back (seq, l) t ⟨hs, by show l.length < _; omega, fun a ha => ?_⟩
  unfold rightL at hr
  simp only [Bool.and_eq_true, List.all_eq_true] at hr
  exact right_accOk (hr.1.1 a ha) (hok a ha).1 (by have := (hok a ha).2; omega)
theorem dec_back {seq : Nat} {l : List Ac} (hs : seq < 18446744073709551616) (hl : l.length ≤ 12) (hr : rightL l = true) (hok : ∀ a ∈ l, a.ok ∧ a.ls.length ≤ 100) : decS (snapB seq l) = ((seq, l), 0) := by
  unfold decS snapB
  rw [openR_seal, if_pos rfl]
  unfold decB
  have h := lg_back hs hl hr hok []
  rw [List.append_nil] at h
  rw [h]
  exact if_pos ⟨rfl, hr⟩
theorem dec_more {seq : Nat} {l : List Ac} (hs : seq < 18446744073709551616) (hl : l.length ≤ 12) (hr : rightL l = true) (hok : ∀ a ∈ l, a.ok ∧ a.ls.length ≤ 100) {t : List UInt8} (ht : t ≠ []) : decS (sealB (encL seq l ++ t)) = ((0, []), 2) := by
  unfold decS
  rw [openR_seal, if_pos rfl]
  unfold decB
  rw [lg_back hs hl hr hok t]
  exact if_neg (fun h => ht h.1)
theorem dec_short {seq : Nat} {l : List Ac} (hs : seq < 18446744073709551616) (hl : l.length ≤ 12) (hr : rightL l = true) (hok : ∀ a ∈ l, a.ok ∧ a.ls.length ≤ 100) {n : Nat} (hn : n < (encL seq l).length) : decS (sealB ((encL seq l).take n)) = ((0, []), 1) := by
  unfold decS
  rw [openR_seal, if_pos rfl]
  unfold decB
  cases hp : pL ((encL seq l).take n) with
  | none => rfl
  | some x =>
    exfalso
    have h1 := cod_L.ext (t := (encL seq l).drop n) (show pL ((encL seq l).take n) = some (x.1, x.2) from hp)
    rw [List.take_append_drop] at h1
    have h2 := lg_back hs hl hr hok []
    rw [List.append_nil, h1] at h2
    injection h2 with h2
    injection h2 with _ h2
    have h3 := congrArg List.length h2
    rw [List.length_append, List.length_drop] at h3
    simp at h3
    omega
/-- what is decoded has these bytes -/
theorem dec_right {bs : List UInt8} (h : (decS bs).2 = 0) : (openR bs).2 = true ∧ rightL (decS bs).1.2 = true ∧ snapB (decS bs).1.1 (decS bs).1.2 = bs ∧ (decS bs).1.1 < 18446744073709551616 := by
  unfold decS at h ⊢
  by_cases ho : (openR bs).2 = true
  · rw [if_pos ho] at h ⊢
    unfold decB at h ⊢
    have hi : isSeal bs := by
      unfold openR at ho
      split at ho
      · assumption
      · cases ho
    cases hp : pL (openR bs).1 with
    | none => rw [hp] at h; cases h
    | some x =>
      rw [hp] at h
      simp only at h ⊢
      by_cases hx : x.2 = [] ∧ rightL x.1.2 = true
      · rw [if_pos hx]
        obtain ⟨e, o⟩ := cod_L.inv _ _ _ (show pL (openR bs).1 = some (x.1, x.2) from hp)
        refine ⟨ho, hx.2, ?_, o.1⟩
        rw [hx.1, List.append_nil] at e
        show sealB (encL x.1.1 x.1.2) = bs
        rw [← e, openR, if_pos hi]
        exact ((seal_iff bs).1 hi).2
      · rw [if_neg hx] at h; cases h
  · rw [if_neg ho] at h; cases h
theorem dec_cases (bs : List UInt8) : ((openR bs).2 = false ∧ decS bs = ((0, []), 4)) ∨ ((openR bs).2 = true ∧ (decS bs = ((0, []), 1) ∨ decS bs = ((0, []), 2) ∨ (decS bs).2 = 0)) := by
  unfold decS
  cases ho : (openR bs).2 with
  | false => exact .inl ⟨rfl, rfl⟩
  | true =>
    refine .inr ⟨rfl, ?_⟩
    rw [if_pos rfl]
    unfold decB
    cases pL (openR bs).1 with
    | none => exact .inl rfl
    | some x =>
      simp only
      split
      · exact .inr (.inr rfl)
      · exact .inr (.inl rfl)

theorem snap0 : rightL [] = true := by decide
theorem snap0_len : (snapB 0 []).length = 13 := by unfold snapB; rw [sealB_length]; decide
theorem snap0_head : (snapB 0 [])[0]? = some 0 := by unfold snapB sealB; rfl
theorem snap0_open : (openR (snapB 0 [])).2 = true := by unfold snapB; rw [openR_seal]

set_option maxHeartbeats 4000000 in
theorem awake17 (w : World) (hL : Laid w) : Calls Tryd.prog 23 #[] w (RetV w (.bool true)) := by
  have HE : Hid (∀ W, Ext w W → Calls Tryd.prog 24 #[(.agg #[.int .u64 0, .slice none 0 0])] W (RetB2 W (snapB 0 []) (.int .i64 0))) := fun W e => by
    have h := senc_calls 0 none 0 [] W (by decide) ⟨RdE.nil, by simp⟩ (by simp) (by simp [acs]) (by simp) (hL.ext e)
    have e0 : rightL (acs []) = true := snap0
    refine h.mono fun e w' h => ?_
    rw [if_pos e0] at h
    exact h
  have HLn := Lib.hid snap0_len
  have HH := Lib.hid snap0_head
  have HOp := Lib.hid snap0_open
  clear hL
  generalize snapB 0 [] = B at *
  go_enter Tryd.func23, Tryd.ntmps23
  go_wp2_with fail
  refine (HE.out _ (Ext.refl _)).mono ?_
  rintro e w1 ⟨A1, c1, rfl, o1, e1⟩
  have O1 := Lib.hid o1
  have E1 := Lib.hid e1
  have h0 : 0 < B.length := by have := HLn.out; omega
  obtain ⟨ad, rfl, x0⟩ := o1.rd.at_ h0
  have hb0 : B[0] = 0 := by have h := HH.out; rw [List.getElem?_eq_getElem h0] at h; injection h
  rw [hb0] at x0
  simp only [add_zero'] at x0
  rw [HLn.out]
  clear o1 e1 h0 hb0
  go_wp2_with (first
    | (go_at_call 31; rw [← HLn.out]; refine (ssealed_calls (some ad) c1 B w1 O1.out.rd (by have := HLn.out; omega) O1.out.cap O1.out.capmax).mono ?_; rintro e w2 ⟨rfl, e2⟩; rw [HOp.out]; have E2 := Lib.hid (E1.out.trans e2); clear e2))
  go_ret
  exact ⟨rfl, E2.out⟩


set_option maxHeartbeats 16000000 in
theorem snapEncodes_walk (seq : Nat) (A : Option Addr) (c : Nat) (xs : List Ax) (w : World) (hs : seq < 18446744073709551616) (hb : RdL w A xs) (hcl : xs.length ≤ c) (hcm : c ≤ 9223372036854775807) (hL : Laid w) :
    Calls Tryd.prog 5 #[(.agg #[.int .u64 seq, .slice A xs.length c])] w (RetV w (.bool true)) := by
  have HL := Lib.hid hL
  have HLA : Hid (∀ W, Ext w W → Calls Tryd.prog 22 #[(.agg #[.int .u64 seq, .slice A xs.length c])] W (RetV W (.bool (largeL (acs xs))))) := fun W e => rlargeL_calls seq A c xs W (hb.ext e) (by omega)
  have HAW : Hid (∀ W, Ext w W → Calls Tryd.prog 23 #[] W (RetV W (.bool true))) := fun W e => awake17 W (HL.out.ext e)
  by_cases h1 : largeL (acs xs) = true
  · rw [h1] at HLA
    clear h1 hb
    go_enter Tryd.func5, Tryd.ntmps5
    go_wp2_with (first | ((with_reducible show wpList _ _ _ ({ dst := some 1, op := Op.box 40 _, type := _, pos := _, after := _, guard := _ } :: _) _ _); refine bxA _ rfl 40 _ rfl _ rfl ?_; intro g1 w1 hg hs1 k1 e1; have X1 := Lib.hid k1; have E1 := Lib.hid e1; obtain ⟨a0, a1⟩ := lg_cells k1; clear hg hs1 k1 e1) | (go_at_call 22; refine (HLA.out _ E1.out).mono ?_; rintro e w2 ⟨rfl, e2⟩; have X2 := Lib.hid (X1.out.ext e2); have E2 := Lib.hid (E1.out.trans e2); clear e2 a0 a1; obtain ⟨a0, a1⟩ := lg_cells X2.out) | (go_at_call 23; refine (HAW.out _ E2.out).mono ?_; rintro e w9 ⟨rfl, e9⟩; have E9 := Lib.hid (Ext.trans E2.out e9); clear e9))
    go_ret
    exact ⟨rfl, E9.out⟩
  obtain ⟨hn12, hoks⟩ := largeL_ok ((Bool.not_eq_true _).mp h1) hb
  rw [(Bool.not_eq_true _).mp h1] at HLA
  clear h1
  have hok : ∀ x ∈ xs, x.a.ok := fun x hx => (hoks x hx).1
  have hsm : ∀ a ∈ acs xs, small a := fun a ha => by obtain ⟨x, hx, rfl⟩ := List.mem_map.1 ha; have := hoks x hx; unfold small; omega
  have hoa : ∀ a ∈ acs xs, a.ok ∧ a.ls.length ≤ 100 := fun a ha => by obtain ⟨x, hx, rfl⟩ := List.mem_map.1 ha; have := hoks x hx; exact ⟨this.1, by omega⟩
  have HRR : Hid (∀ W, Ext w W → Calls Tryd.prog 25 #[(.agg #[.int .u64 seq, .slice A xs.length c])] W (RetV W (.bool (rightL (acs xs))))) := fun W e => rlright_calls seq A c xs W (hb.ext e) hok (by omega)
  have HEN : Hid (∀ W, Ext w W → Calls Tryd.prog 24 #[(.agg #[.int .u64 seq, .slice A xs.length c])] W (fun e w' => if rightL (acs xs) = true then RetB2 W (snapB seq (acs xs)) (.int .i64 0) e w' else e = .returned (.tuple #[.slice none 0 0, .int .i64 2]) ∧ Ext W w')) := fun W e => senc_calls seq A c xs W hs (hb.ext e) hok hsm hn12 (HL.out.ext e)
  cases hr : rightL (acs xs) with
  | false =>
    rw [hr] at HRR
    have HEF : Hid (∀ W, Ext w W → Calls Tryd.prog 24 #[(.agg #[.int .u64 seq, .slice A xs.length c])] W (fun e w' => e = .returned (.tuple #[.slice none 0 0, .int .i64 2]) ∧ Ext W w')) := fun W e => (HEN.out W e).mono fun e w' h => by rw [if_neg (by rw [hr]; decide)] at h; exact h
    clear hr HEN hb hok hoks hsm hoa
    go_enter Tryd.func5, Tryd.ntmps5
    go_wp2_with (first
      | ((with_reducible show wpList _ _ _ ({ dst := some 1, op := Op.box 40 _, type := _, pos := _, after := _, guard := _ } :: _) _ _); refine bxA _ rfl 40 _ rfl _ rfl ?_; intro g1 w1 hg hs1 k1 e1; have X1 := Lib.hid k1; have E1 := Lib.hid e1; obtain ⟨a0, a1⟩ := lg_cells k1; clear hg hs1 k1 e1)
      | (go_at_call 22; refine (HLA.out _ E1.out).mono ?_; rintro e w2 ⟨rfl, e2⟩; have X2 := Lib.hid (X1.out.ext e2); have E2 := Lib.hid (E1.out.trans e2); clear e2 a0 a1; obtain ⟨a0, a1⟩ := lg_cells X2.out)
      | (go_at_call 24; refine (HEF.out _ E2.out).mono ?_; rintro e w3 ⟨rfl, e3⟩; have X3 := Lib.hid (X2.out.ext e3); have E3 := Lib.hid (E2.out.trans e3); clear e3 a0 a1; obtain ⟨a0, a1⟩ := lg_cells X3.out)
      | (go_at_call 25; refine (HRR.out _ E3.out).mono ?_; rintro e w4 ⟨rfl, e4⟩; have E4 := Lib.hid (E3.out.trans e4); clear e4 a0 a1)
      | (go_at_call 23; refine (HAW.out _ E4.out).mono ?_; rintro e w9 ⟨rfl, e9⟩; have E9 := Lib.hid (Ext.trans E4.out e9); clear e9))
    go_ret
    exact ⟨rfl, E9.out⟩
  | true =>
    rw [hr] at HRR
    have HET : Hid (∀ W, Ext w W → Calls Tryd.prog 24 #[(.agg #[.int .u64 seq, .slice A xs.length c])] W (RetB2 W (snapB seq (acs xs)) (.int .i64 0))) := fun W e => (HEN.out W e).mono fun e w' h => by rw [if_pos hr] at h; exact h
    have HBY : Hid (∀ W, Ext w W → Calls Tryd.prog 28 #[(.agg #[.int .u64 seq, .slice A xs.length c])] W (RetB W (snapB seq (acs xs)))) := fun W e => rbytes17_calls seq A c xs W hs (hb.ext e) hok hsm hn12
    have HDB := Lib.hid (dec_back hs (by rw [acs_len]; exact hn12) hr hoa)
    have HDE : Hid (∀ W B d, OwnB W 0 B d (snapB seq (acs xs)) → Ext w W → Calls Tryd.prog 26 #[.slice B (snapB seq (acs xs)).length d] W (fun e w' => ∃ B d, ∃ ys : List Ax, e = .returned (.tuple #[(.agg #[.int .u64 seq, .slice B ys.length d]), .int .i64 0]) ∧ acs ys = acs xs ∧ RdL w' B ys ∧ (∀ y ∈ ys, y.a.ok) ∧ Ext W w')) := fun W B d h e => by
      have hln : (snapB seq (acs xs)).length ≤ 1000000 := by
        unfold snapB
        rw [sealB_length]
        have h1 := encAs_le hsm
        rw [acs_len] at h1
        simp only [encL, List.length_append, leB_length]
        omega
      have h2 := sdec_calls B d _ W h.rd hln h.cap h.capmax (HL.out.ext e)
      rw [HDB.out] at h2
      exact h2
    have hln : (snapB seq (acs xs)).length ≤ 1000000 := by
      unfold snapB
      rw [sealB_length]
      have h1 := encAs_le hsm
      rw [acs_len] at h1
      simp only [encL, List.length_append, leB_length]
      omega
    have HXL : Hid (RdL w A xs ∧ (∀ x ∈ xs, x.a.ok) ∧ xs.length ≤ 100000) := ⟨hb, hok, by omega⟩
    have HLN := Lib.hid hln
    clear hr HEN hb hok hoks hsm hoa HDB hln
    generalize hB : snapB seq (acs xs) = BB at *
    clear hB
    go_enter Tryd.func5, Tryd.ntmps5
    go_wp2_with (first
      | ((with_reducible show wpList _ _ _ ({ dst := some 1, op := Op.box 40 _, type := _, pos := _, after := _, guard := _ } :: _) _ _); refine bxA _ rfl 40 _ rfl _ rfl ?_; intro g1 w1 hg hs1 k1 e1; have X1 := Lib.hid k1; have E1 := Lib.hid e1; obtain ⟨a0, a1⟩ := lg_cells k1; clear hg hs1 k1 e1)
      | (go_at_call 22; refine (HLA.out _ E1.out).mono ?_; rintro e w2 ⟨rfl, e2⟩; have X2 := Lib.hid (X1.out.ext e2); have E2 := Lib.hid (E1.out.trans e2); clear e2 a0 a1; obtain ⟨a0, a1⟩ := lg_cells X2.out)
      | (go_at_call 24; refine (HET.out _ E2.out).mono ?_; rintro e w3 ⟨B3, c3, rfl, o3, e3⟩; have O3 := Lib.hid (o3.lower (Nat.zero_le _)); have X3 := Lib.hid (X2.out.ext e3); have E3 := Lib.hid (E2.out.trans e3); clear e3 o3 a0 a1; obtain ⟨a0, a1⟩ := lg_cells X3.out)
      | (go_at_call 25; refine (HRR.out _ E3.out).mono ?_; rintro e w4 ⟨rfl, e4⟩; have E4 := Lib.hid (E3.out.trans e4); have O4 := Lib.hid (O3.out.ext e4); have X4 := Lib.hid (X3.out.ext e4); clear e4 a0 a1)
      | (go_at_call 26; refine (HDE.out _ _ _ O4.out E4.out).mono ?_; rintro e w5 ⟨B5, d5, ys, rfl, hy, rl, yo, e5⟩; have HY := Lib.hid hy; have R5 := Lib.hid rl; have YO := Lib.hid yo; have E5 := Lib.hid (E4.out.trans e5); have O5 := Lib.hid (O4.out.ext e5); have X5 := Lib.hid (X4.out.ext e5); clear e5 rl hy yo)
      | ((with_reducible show wpList _ _ _ ({ dst := some 5, op := Op.alloc 40, type := _, pos := _, after := _, guard := _ } :: _) _ _); refine alA _ rfl 40 rfl _ _ zero_lg ?_; intro g5 w6 hg hs1 k1 e1; have G5 := Lib.hid (Nat.le_of_eq hg); have Y6 := Lib.hid k1; have T6 := Lib.hid e1; clear hg hs1 k1 e1)
      | ((with_reducible show wpList _ _ _ ({ dst := none, op := Op.store 40 _ _, type := _, pos := _, after := _, guard := _ } :: _) _ _); refine stA _ rfl 40 40 _ _ rfl g5 _ #[.int .u64 seq, .slice B5 ys.length d5] rfl rfl Y6.out size_lg rfl (lg_one _ _ _ _) ?_; intro w7 hs k4 q4; have Y7 := Lib.hid k4; have T7 := Lib.hid (show Ext w5 w7 from T6.out.grown q4 (fun q hq => by injection hq with hq; have := G5.out; omega)); have R7 := Lib.hid (R5.out.ext T7.out); have X7 := Lib.hid (X5.out.ext T7.out); have O7 := Lib.hid (O5.out.ext T7.out); have E7 := Lib.hid (E5.out.trans T7.out); obtain ⟨a0, a1⟩ := lg_cells X7.out; clear hs k4 q4)
      | (go_at_call 28; refine (HBY.out _ E7.out).mono ?_; rintro e w8 ⟨B8, d8, rfl, o8, e8⟩; have P8 := Lib.hid o8; have O8 := Lib.hid (O7.out.ext e8); have X8 := Lib.hid (X7.out.ext e8); have Y8 := Lib.hid (Y7.out.ext e8); have R8 := Lib.hid (R7.out.ext e8); have E8 := Lib.hid (E7.out.trans e8); clear o8 e8 a0 a1)
      | (go_at_call 27; refine (sameE B3 B8 c3 d8 BB BB _ O8.out.rd P8.out.rd HLN.out HLN.out).mono ?_; rintro e w10 ⟨rfl, e10⟩; rw [decide_eq_true (rfl : BB = BB)]; have E10 := Lib.hid (E8.out.trans e10); have X10 := Lib.hid (X8.out.ext e10); have Y10 := Lib.hid (Y8.out.ext e10); have R10 := Lib.hid (R8.out.ext e10); clear e10; obtain ⟨a0, a1⟩ := lg_cells X10.out; obtain ⟨b0, b1⟩ := lg_cells Y10.out)
      | (go_at_call 29; refine (rlsame_calls seq seq B5 A d5 c ys xs _ R10.out (HXL.out.1.ext E10.out) YO.out HXL.out.2.1 (by have h := congrArg List.length HY.out; rw [acs_len, acs_len] at h; have := HXL.out.2.2; omega)).mono ?_; rintro e w11 ⟨rfl, e11⟩; rw [decide_eq_true (show seq = seq ∧ acs ys = acs xs from ⟨rfl, HY.out⟩)]; have E11 := Lib.hid (E10.out.trans e11); clear e11 a0 a1 b0 b1)
      | (go_at_call 23; refine (HAW.out _ E11.out).mono ?_; rintro e w9 ⟨rfl, e9⟩; have E9 := Lib.hid (Ext.trans E11.out e9); clear e9))
    go_ret
    exact ⟨rfl, E9.out⟩
end Go.Proofs.YtkbjnlbbfapgdaaDoor

