/- ref15.Large, plain, Right, Out, Use, Total. -/
import Derived.Test.YtkbjnlbbfapgdaaDoorAcctW
set_option maxRecDepth 100000
set_option linter.unusedVariables false
set_option linter.unusedSimpArgs false
namespace Go.Proofs.YtkbjnlbbfapgdaaDoor
open Go.RowKit

def largeB (a : Ac) : Bool := (a.cl.take 40).any (fun s => decide (100 < s.ten.size)) || decide (100 < a.ten.size) || decide (40 < a.ls.length) || decide (40 < a.cl.length)
theorem any_take_false {α : Type} {p : α → Bool} {xs : List α} {k : Nat} (hk : k < xs.length) (h : (xs.take k).any p = false) (hp : p xs[k] = false) : (xs.take (k + 1)).any p = false := by
  rw [List.take_succ_eq_append_getElem hk, List.any_append, h]
  simpa using hp

set_option maxHeartbeats 4000000 in
theorem rlarge_calls (a : Ac) (AL AC : Option Addr) (cL cC : Nat) (w : World) (ha : RdA w a AL AC) (h1 : a.ls.length ≤ 9223372036854775807) (h2 : a.cl.length ≤ 9223372036854775807) (h3 : a.ten.size ≤ 9223372036854775807) (h4 : ∀ s ∈ a.cl, s.ok) :
    Calls Tryd.prog 12 #[acA a AL cL AC cC] w (RetV w (.bool (largeB a))) := by
  have HA := Lib.hid ha
  have OK := Lib.hid h4
  clear ha h4
  unfold acA
  go_enter Tryd.func12, Tryd.ntmps12
  go_wp2_with (first | ((with_reducible show wpList _ _ _ ({ dst := some 1, op := Op.box 26 _, type := _, pos := _, after := _, guard := _ } :: _) _ _); refine bxA _ rfl 26 _ rfl _ rfl ?_; intro g1 w1 hg hs1 k1 e1; have X1 := Lib.hid k1; have E1 := Lib.hid e1; obtain ⟨a0, a1, a2, a3, a4, a5, a6⟩ := ac_cells k1; clear hg hs1 k1 e1))
  clear a0 a1 a2 a3 a4 a5 a6
  go_loopw [3] (fun i wr => ∃ k : Nat, k ≤ a.cl.length ∧ k ≤ 40 ∧ i = .int .i64 k ∧ Ext w1 wr ∧ (a.cl.take k).any (fun s => decide (100 < s.ten.size)) = false) (fun i _ => a.cl.length - (intOf i).toNat)
  case atStart => exact ⟨0, by omega, by omega, rfl, Ext.refl _, rfl⟩
  case round =>
    obtain ⟨k, hk, hk4, rfl, hE, ht⟩ := hrel
    have Ht := Lib.hid ht
    have E0 := Lib.hid hE
    have F0 := Lib.hid (E1.out.trans hE)
    clear ht hE
    obtain ⟨a0, a1, a2, a3, a4, a5, a6⟩ := ac_cells (X1.out.ext E0.out)
    by_cases hlt : k < a.cl.length ∧ k < 40
    · obtain ⟨hl1, hl2⟩ := hlt
      obtain ⟨ad, rfl, x0, x1, x2, x3, x4, x5⟩ := (HA.out.2.ext F0.out).six hl1
      have hx := (OK.out _ (List.getElem_mem hl1)).2.2.2.2.2
      have HN : Hid (decide (100 < a.cl[k].ten.size) = false → (a.cl.take (k + 1)).any (fun s => decide (100 < s.ten.size)) = false) := fun h => any_take_false hl1 Ht.out h
      have HY : Hid (100 < a.cl[k].ten.size → largeB a = true) := by
        intro h
        unfold largeB
        have : (a.cl.take 40).any (fun s => decide (100 < s.ten.size)) = true := List.any_eq_true.2 ⟨a.cl[k], List.mem_take_iff_getElem.2 ⟨k, by omega, rfl⟩, decide_eq_true h⟩
        rw [this]; rfl
      generalize a.cl[k] = x at *
      have k1 : (k : Int) < (a.cl.length : Int) := by omega
      have k2 : decide ((k : Int) < 40) = true := by simp; omega
      by_cases hb : 100 < x.ten.size
      · have HF := Lib.hid (HY.out hb)
        clear HN HY a0 a1 a2 a3 a4 a5 x1 x2 x3 x4 x5
        go_wp2_with fail
        go_ret
        rw [HF.out]
        exact ⟨rfl, F0.out⟩
      · have HF := Lib.hid (HN.out (decide_eq_false hb))
        clear HN HY a0 a1 a2 a3 a4 a5 x1 x2 x3 x4 x5
        go_wp2_with fail
        go_roundw
        case rel => exact ⟨k + 1, by omega, by omega, by go_num, E0.out, HF.out⟩
        case measure => simp [intOf]; omega
    · have HT : Hid ((a.cl.take 40).any (fun s => decide (100 < s.ten.size)) = false ∨ 40 < a.cl.length) := by
        by_cases h40 : k < 40
        · left
          have h := Ht.out
          rw [List.take_of_length_le (by omega)] at h ⊢
          exact h
        · obtain rfl : k = 40 := by omega
          exact .inl Ht.out
      have HF : Hid (largeB a = (decide (100 < a.ten.size) || decide (40 < a.ls.length) || decide (40 < a.cl.length))) := by
        show _ = _
        unfold largeB
        rcases HT.out with h | h
        · rw [h]; rfl
        · rw [decide_eq_true h]; simp
      clear HT Ht a1 a2 a3 a4
      by_cases h40 : k < a.cl.length
      · have k2 : decide ((k : Int) < 40) = false := by simp; omega
        clear hlt
        go_wp2_with fail
        all_goals
          go_ret
          refine ⟨ret_boolA ?_, F0.out⟩
          rw [HF.out]
          rw [Bool.eq_iff_iff]
          simp only [*, Bool.or_eq_true, decide_eq_true_eq, decide_true, decide_false, Bool.true_or, Bool.false_or, true_or, or_true, iff_true, true_iff, false_or, or_false]
          try omega
      · clear hlt
        go_wp2_with fail
        all_goals
          go_ret
          refine ⟨ret_boolA ?_, F0.out⟩
          rw [HF.out]
          rw [Bool.eq_iff_iff]
          simp only [*, Bool.or_eq_true, decide_eq_true_eq, decide_true, decide_false, Bool.true_or, Bool.false_or, true_or, or_true, iff_true, true_iff, false_or, or_false]
          try omega

theorem rplain15 (x : Nat) (w : World) (hx : x < 18446744073709551616) : Calls Tryd.prog 49 #[.int .u64 x] w fun e w' => e = .returned (.bool (plainB x)) ∧ w = w' := by
  have HP : Hid (plainB x = decide (clsN x = 4 ∨ clsN x = 5)) := rfl
  have hd := cls_dom hx
  go_enter Tryd.func49, Tryd.ntmps49
  go_wp2_with fail
  refine (rclass_calls x _ hx).mono ?_
  rintro e w' ⟨rfl, rfl⟩
  by_cases h4 : clsN x = 4
  · rw [h4] at HP ⊢
    go_wp2_with fail
    go_ret
    rw [HP.out]
    exact ⟨rfl, rfl⟩
  · have q4 : ((clsN x : Int) == 4) = false := beq_eq_false_iff_ne.2 (by omega)
    have HQ : Hid (plainB x = ((clsN x : Int) == 5)) := by
      show _ = _
      rw [HP.out, Bool.eq_iff_iff]; simp; omega
    clear hd h4
    go_wp2_with fail
    go_ret
    rw [HQ.out]
    exact ⟨rfl, rfl⟩

set_option maxHeartbeats 4000000 in
theorem rout_calls (a : Ac) (AL AC : Option Addr) (cL cC : Nat) (w : World) (ha : RdA w a AL AC) (hok : a.ok) :
    Calls Tryd.prog 60 #[acA a AL cL AC cC] w (RetV w (.int .u64 (outF a.ls))) := by
  have HA := Lib.hid ha
  have OK := Lib.hid hok
  have l1 := hok.2.2.2.2.2.2.2.1
  clear ha hok
  unfold acA
  go_enter Tryd.func60, Tryd.ntmps60
  go_wp2_with (first | ((with_reducible show wpList _ _ _ ({ dst := some 1, op := Op.box 26 _, type := _, pos := _, after := _, guard := _ } :: _) _ _); refine bxA _ rfl 26 _ rfl _ rfl ?_; intro g1 w1 hg hs1 k1 e1; have X1 := Lib.hid k1; have E1 := Lib.hid e1; obtain ⟨a0, a1, a2, a3, a4, a5, a6⟩ := ac_cells k1; clear hg hs1 k1 e1))
  clear a0 a1 a2 a3 a4 a5 a6
  go_loopw [3, 4] (fun n i wr => ∃ k N : Nat, k ≤ a.ls.length ∧ n = .int .u64 N ∧ i = .int .i64 k ∧ Ext w1 wr ∧ N < 18446744073709551616 ∧ (a.ls.drop k).foldl (fun n l => addN n l.sz) N = outF a.ls) (fun _ i _ => a.ls.length - (intOf i).toNat)
  case atStart => exact ⟨0, 0, by omega, rfl, rfl, Ext.refl _, by decide, rfl⟩
  case round =>
    obtain ⟨k, N, hk, rfl, rfl, hE, hN, hr⟩ := hrel
    have Hr := Lib.hid hr
    have E0 := Lib.hid hE
    have F0 := Lib.hid (E1.out.trans hE)
    clear hr hE
    obtain ⟨a0, a1, a2, a3, a4, a5, a6⟩ := ac_cells (X1.out.ext E0.out)
    clear a0 a1 a2 a3 a4 a6
    by_cases hlt : k < a.ls.length
    · obtain ⟨ad, rfl, x0, x1⟩ := (HA.out.1.ext F0.out).two hlt
      have HD := Lib.hid (drop_cons hlt)
      have hx := OK.out.2.2.2.2.2.1 _ (List.getElem_mem hlt)
      have k1 : (k : Int) < (a.ls.length : Int) := by omega
      generalize a.ls[k] = x at *
      have z2 := hx.2
      clear hx
      have HO : Hid (∀ W, Calls Tryd.prog 59 #[.int .u64 N, .int .u64 x.sz] W fun e w' => e = .returned (.int .u64 (addN N x.sz)) ∧ W = w') := fun W => radd_calls N x.sz W hN z2
      have HN : Hid ((a.ls.drop (k + 1)).foldl (fun n l => addN n l.sz) (addN N x.sz) = outF a.ls) := by show _ = _; rw [← Hr.out, HD.out]; rfl
      have hM : addN N x.sz < 18446744073709551616 := by rw [addN_eq]; omega
      generalize addN N x.sz = M at *
      go_wp2_with (go_at_call 59; refine (HO.out _).mono ?_; rintro e w5 ⟨rfl, rfl⟩)
      go_roundw
      case rel => exact ⟨k + 1, M, by omega, rfl, by go_num, E0.out, hM, HN.out⟩
      case measure => simp [intOf]; omega
    · have HF : Hid (outF a.ls = N) := by
        show _ = _
        rw [← Hr.out, List.drop_of_length_le (by omega)]; rfl
      go_wp2_with fail
      go_ret
      rw [HF.out]
      exact ⟨rfl, F0.out⟩
set_option maxHeartbeats 4000000 in
theorem ruse_calls (a : Ac) (AL AC : Option Addr) (cL cC : Nat) (w : World) (ha : RdA w a AL AC) (hok : a.ok) :
    Calls Tryd.prog 16 #[acA a AL cL AC cC] w (RetV w (.int .u64 (useN a))) := by
  have HA := Lib.hid ha
  have OK := Lib.hid hok
  have hu := hok.2.2.1
  have ho := outF_lt a.ls
  have HU : Hid (useN a = addN a.used (outF a.ls)) := by show _ = _; rfl
  have HO : Hid (∀ W, Ext w W → Calls Tryd.prog 60 #[.agg #[.string a.ten, .int .u64 a.cap, .int .u64 a.used, .int .u64 a.bits, .int .u64 a.per, .slice AL a.ls.length cL, .slice AC a.cl.length cC]] W (RetV W (.int .u64 (outF a.ls)))) := fun W e => rout_calls a AL AC cL cC W (HA.out.ext e) OK.out
  have HP : Hid (∀ W, Calls Tryd.prog 59 #[.int .u64 a.used, .int .u64 (outF a.ls)] W fun e w' => e = .returned (.int .u64 (addN a.used (outF a.ls))) ∧ W = w') := fun W => radd_calls a.used _ W hu ho
  clear ha hok
  generalize outF a.ls = O at *
  generalize addN a.used O = R at *
  unfold acA
  go_enter Tryd.func16, Tryd.ntmps16
  go_wp2_with (first
    | ((with_reducible show wpList _ _ _ ({ dst := some 1, op := Op.box 26 _, type := _, pos := _, after := _, guard := _ } :: _) _ _); refine bxA _ rfl 26 _ rfl _ rfl ?_; intro g1 w1 hg hs1 k1 e1; have X1 := Lib.hid k1; have E1 := Lib.hid e1; clear hg hs1 k1 e1))
  have KS : Hid (∀ w', Ext w1 w' → Ext w1 w' ∧ w'.cell? ⟨g1, 0, none⟩ = some (.string a.ten) ∧ w'.cell? ⟨g1, 1, none⟩ = some (.int .u64 a.cap) ∧ w'.cell? ⟨g1, 2, none⟩ = some (.int .u64 a.used) ∧ w'.cell? ⟨g1, 3, none⟩ = some (.int .u64 a.bits) ∧ w'.cell? ⟨g1, 4, none⟩ = some (.int .u64 a.per) ∧ w'.cell? ⟨g1, 5, none⟩ = some (.slice AL a.ls.length cL) ∧ w'.cell? ⟨g1, 6, none⟩ = some (.slice AC a.cl.length cC)) := fun w' e => ⟨e, ac_cells (X1.out.ext e)⟩
  go_region_held3 (fun w' => Ext w1 w' ∧ w'.cell? ⟨g1, 0, none⟩ = some (.string a.ten) ∧ w'.cell? ⟨g1, 1, none⟩ = some (.int .u64 a.cap) ∧ w'.cell? ⟨g1, 2, none⟩ = some (.int .u64 a.used) ∧ w'.cell? ⟨g1, 3, none⟩ = some (.int .u64 a.bits) ∧ w'.cell? ⟨g1, 4, none⟩ = some (.int .u64 a.per) ∧ w'.cell? ⟨g1, 5, none⟩ = some (.slice AL a.ls.length cL) ∧ w'.cell? ⟨g1, 6, none⟩ = some (.slice AC a.cl.length cC))
    (first | exact KS.out _ (Ext.refl _).drew | exact KS.out _ (by assumption))
    (first | (go_at_call 60; refine (HO.out _ (E1.out.trans (by first | assumption | exact (Ext.refl _).drew))).mono ?_; rintro e w5 ⟨rfl, e5⟩; have S5 : Ext w1 w5 := Ext.trans (by first | assumption | exact (Ext.refl _).drew) e5; clear e5) | (go_at_call 59; refine (HP.out _).mono ?_; rintro e w6 ⟨rfl, rfl⟩))
  go_wp2_with fail
  go_ret
  rw [HU.out]
  exact ⟨rfl, E1.out.trans S5⟩


set_option maxHeartbeats 4000000 in
theorem rtotal_calls (a : Ac) (AL AC : Option Addr) (cL cC : Nat) (w : World) (ha : RdA w a AL AC) (hok : a.ok) :
    Calls Tryd.prog 17 #[acA a AL cL AC cC] w (RetV w (.int .u64 (totF a.used a.cl))) := by
  have HA := Lib.hid ha
  have OK := Lib.hid hok
  have l1 := hok.2.2.2.2.2.2.2.2
  have u1 := hok.2.2.1
  clear ha hok
  unfold acA
  go_enter Tryd.func17, Tryd.ntmps17
  go_wp2_with (first | ((with_reducible show wpList _ _ _ ({ dst := some 1, op := Op.box 26 _, type := _, pos := _, after := _, guard := _ } :: _) _ _); refine bxA _ rfl 26 _ rfl _ rfl ?_; intro g1 w1 hg hs1 k1 e1; have X1 := Lib.hid k1; have E1 := Lib.hid e1; obtain ⟨a0, a1, a2, a3, a4, a5, a6⟩ := ac_cells k1; clear hg hs1 k1 e1))
  clear a0 a1 a2 a3 a4 a5 a6
  go_loopw [3, 4] (fun n i wr => ∃ k N : Nat, k ≤ a.cl.length ∧ n = .int .u64 N ∧ i = .int .i64 k ∧ Ext w1 wr ∧ N < 18446744073709551616 ∧ totF N (a.cl.drop k) = totF a.used a.cl) (fun _ i _ => a.cl.length - (intOf i).toNat)
  case atStart => exact ⟨0, a.used, by omega, rfl, rfl, Ext.refl _, u1, rfl⟩
  case round =>
    obtain ⟨k, N, hk, rfl, rfl, hE, hN, hr⟩ := hrel
    have Hr := Lib.hid hr
    have E0 := Lib.hid hE
    have F0 := Lib.hid (E1.out.trans hE)
    clear hr hE
    obtain ⟨a0, a1, a2, a3, a4, a5, a6⟩ := ac_cells (X1.out.ext E0.out)
    clear a0 a1 a2 a3 a4 a5
    by_cases hlt : k < a.cl.length
    · obtain ⟨ad, rfl, x0, x1, x2, x3, x4, x5⟩ := (HA.out.2.ext F0.out).six hlt
      have HD := Lib.hid (drop_cons hlt)
      have hx := OK.out.2.2.2.2.2.2.1 _ (List.getElem_mem hlt)
      have k1 : (k : Int) < (a.cl.length : Int) := by omega
      generalize a.cl[k] = x at *
      have z2 := hx.2.1
      clear hx
      have HO : Hid (∀ W, Calls Tryd.prog 59 #[.int .u64 N, .int .u64 x.used] W fun e w' => e = .returned (.int .u64 (addN N x.used)) ∧ W = w') := fun W => radd_calls N x.used W hN z2
      have HN : Hid (totF (addN N x.used) (a.cl.drop (k + 1)) = totF a.used a.cl) := by show _ = _; rw [← Hr.out, HD.out]; rfl
      have hM : addN N x.used < 18446744073709551616 := by rw [addN_eq]; omega
      generalize addN N x.used = M at *
      go_wp2_with (go_at_call 59; refine (HO.out _).mono ?_; rintro e w5 ⟨rfl, rfl⟩)
      go_roundw
      case rel => exact ⟨k + 1, M, by omega, rfl, by go_num, E0.out, hM, HN.out⟩
      case measure => simp [intOf]; omega
    · have HF : Hid (totF a.used a.cl = N) := by
        show _ = _
        rw [← Hr.out, List.drop_of_length_le (by omega)]; rfl
      go_wp2_with fail
      go_ret
      rw [HF.out]
      exact ⟨rfl, F0.out⟩
end Go.Proofs.YtkbjnlbbfapgdaaDoor
