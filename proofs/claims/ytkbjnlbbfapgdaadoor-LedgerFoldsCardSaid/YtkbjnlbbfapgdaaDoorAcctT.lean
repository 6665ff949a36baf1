/- ref15.Same. -/
import Derived.Test.YtkbjnlbbfapgdaaDoorAcctS
set_option maxRecDepth 100000
set_option linter.unusedVariables false
set_option linter.unusedSimpArgs false
namespace Go.Proofs.YtkbjnlbbfapgdaaDoor
open Go.RowKit

theorem eq_dec2 (a b : Ac) : decide (a = b) = (decide (a.ten.toList = b.ten.toList) && decide ((a.cap : Int) = b.cap) && decide ((a.used : Int) = b.used) && decide ((a.bits : Int) = b.bits) && decide ((a.per : Int) = b.per) && decide ((a.ls.length : Int) = b.ls.length) && decide ((a.cl.length : Int) = b.cl.length) && (decide (a.ls = b.ls) && decide (a.cl = b.cl))) := by
  rw [eq_dec, Bool.eq_iff_iff]
  simp only [Bool.and_eq_true, decide_eq_true_eq, and_assoc]
  constructor
  · rintro ⟨h1, h2, h3, h4, h5, h6, h7⟩; exact ⟨h1, h2, h3, h4, h5, by rw [h6], by rw [h7], h6, h7⟩
  · rintro ⟨h1, h2, h3, h4, h5, _, _, h6, h7⟩; exact ⟨h1, h2, h3, h4, h5, h6, h7⟩

set_option maxHeartbeats 4000000 in
theorem rasame_loop (ten : ByteArray) (cap used bits per : Nat) (ls ls' : List Lz) (cl cl' : List St) (AL AC BL BC : Option Addr) (cL cC dL dC : Nat) (w : World) (ha : RdA w ⟨ten, cap, used, bits, per, ls, cl⟩ AL AC) (hb : RdA w ⟨ten, cap, used, bits, per, ls', cl'⟩ BL BC)
    (h1 : ls.length ≤ 100000) (h2 : cl.length ≤ 100000) (h3 : ls.length = ls'.length) (h4 : cl.length = cl'.length) :
    Calls Tryd.prog 20 #[acA ⟨ten, cap, used, bits, per, ls, cl⟩ AL cL AC cC, acA ⟨ten, cap, used, bits, per, ls', cl'⟩ BL dL BC dC] w (RetV w (.bool (decide (ls = ls') && decide (cl = cl')))) := by
  have HA := Lib.hid ha
  have HB := Lib.hid hb
  have q1 : ((ls.length : Int) != (ls'.length : Int)) = false := by simp [h3]
  have q2 : ((cl.length : Int) != (cl'.length : Int)) = false := by simp [h4]
  have H3 := Lib.hid h3
  have H4 := Lib.hid h4
  have l3 : ls'.length ≤ 100000 := by omega
  have l4 : cl'.length ≤ 100000 := by omega
  clear ha hb h3 h4
  unfold acA
  go_enter Tryd.func20, Tryd.ntmps20
  go_wp2_with (first | ((with_reducible show wpList _ _ _ ({ dst := some 2, op := Op.box 26 _, type := _, pos := _, after := _, guard := _ } :: _) _ _); refine bxA _ rfl 26 _ rfl _ rfl ?_; intro g1 w1 hg hs1 h1' e1; have HG1 := Lib.hid h1'; have E1 := Lib.hid e1; clear hg hs1 h1' e1) | ((with_reducible show wpList _ _ _ ({ dst := some 3, op := Op.box 26 _, type := _, pos := _, after := _, guard := _ } :: _) _ _); refine bxA _ rfl 26 _ rfl _ rfl ?_; intro g2 w2 hg hs1 h1' e1; have X1 := Lib.hid (HG1.out.ext e1); have X2 := Lib.hid h1'; have E2 := Lib.hid (E1.out.trans e1); obtain ⟨a0, a1, a2, a3, a4, a5, a6⟩ := ac_cells X1.out; obtain ⟨b0, b1, b2, b3, b4, b5, b6⟩ := ac_cells X2.out; clear hg hs1 h1' e1))
  clear a0 a1 a2 a3 a4 a5 a6 b0 b1 b2 b3 b4 b5 b6
  go_loopw [5] (fun i wr => ∃ k : Nat, k ≤ ls.length ∧ i = .int .i64 k ∧ Ext w2 wr ∧ ls.take k = ls'.take k) (fun i _ => ls.length - (intOf i).toNat)
  case atStart => exact ⟨0, by omega, rfl, Ext.refl _, rfl⟩
  case round =>
    obtain ⟨k, hk, rfl, hE, ht⟩ := hrel
    have Ht := Lib.hid ht
    have E0 := Lib.hid hE
    have F0 := Lib.hid (E2.out.trans hE)
    clear ht hE
    obtain ⟨a0, a1, a2, a3, a4, a5, a6⟩ := ac_cells (X1.out.ext E0.out)
    obtain ⟨b0, b1, b2, b3, b4, b5, b6⟩ := ac_cells (X2.out.ext E0.out)
    clear a0 a1 a2 a3 a4 a6 b0 b1 b2 b3 b4 b6
    by_cases hlt : k < ls.length
    · have hlt2 : k < ls'.length := by have := H3.out; omega
      obtain ⟨ad, rfl, x0, x1⟩ := (HA.out.1.ext F0.out).two hlt
      obtain ⟨bd, rfl, y0, y1⟩ := (HB.out.1.ext F0.out).two hlt2
      have HE1 : Hid (ls[k] = ls'[k] → ls.take (k + 1) = ls'.take (k + 1)) := fun h => take_succ_eq hlt hlt2 Ht.out h
      have HE2 : Hid (ls = ls' → ls[k] = ls'[k]) := fun h => by subst h; rfl
      have k1 : (k : Int) < (ls.length : Int) := by omega
      have k2 : (k : Int) < (ls'.length : Int) := by omega
      simp only at x0 x1 y0 y1 a5 b5
      generalize ls[k] = x at *
      generalize ls'[k] = y at *
      have hne := neLz x y
      by_cases hxy : x = y
      · rw [decide_eq_true hxy] at hne
        have HE3 := Lib.hid (HE1.out hxy)
        clear hxy
        go_wp2_with fail
        go_quiet (fail)
        have E1 := Lib.hid (E0.out.drewN nq)
        go_wp2_with fail
        go_roundw
        case rel => exact ⟨k + 1, by omega, by go_num, E1.out, HE3.out⟩
        case measure => simp [intOf]; omega
      · rw [decide_eq_false hxy] at hne
        have HF : Hid (decide (ls = ls') = false) := decide_eq_false (fun h => hxy (HE2.out h))
        clear hxy
        go_wp2_with fail
        go_quiet (fail)
        have E1 := Lib.hid (F0.out.drewN nq)
        go_wp2_with fail
        go_ret
        rw [HF.out]
        exact ⟨rfl, E1.out⟩
    · have HF1 : Hid (decide (ls = ls') = true) := decide_eq_true (by
          have h := Ht.out
          rwa [List.take_of_length_le (by omega), List.take_of_length_le (by have := H3.out; omega)] at h)
      go_wp2_with fail
      clear a5 b5 Ht hlt hk
      go_loopw [6] (fun i ws => ∃ k : Nat, k ≤ cl.length ∧ i = .int .i64 k ∧ Ext w2 ws ∧ cl.take k = cl'.take k) (fun i _ => cl.length - (intOf i).toNat)
      case atStart => exact ⟨0, by omega, rfl, E0.out, rfl⟩
      clear E0 F0
      case round =>
        obtain ⟨j, hj, rfl, hE, ht⟩ := hrel
        have Ht := Lib.hid ht
        have E0 := Lib.hid hE
        have F0 := Lib.hid (E2.out.trans hE)
        clear ht hE
        obtain ⟨a0, a1, a2, a3, a4, a5, a6⟩ := ac_cells (X1.out.ext E0.out)
        obtain ⟨b0, b1, b2, b3, b4, b5, b6⟩ := ac_cells (X2.out.ext E0.out)
        clear a0 a1 a2 a3 a4 a5 b0 b1 b2 b3 b4 b5
        by_cases hlt : j < cl.length
        · have hlt2 : j < cl'.length := by have := H4.out; omega
          obtain ⟨ad, rfl, x0, x1, x2, x3, x4, x5⟩ := (HA.out.2.ext F0.out).six hlt
          obtain ⟨bd, rfl, y0, y1, y2, y3, y4, y5⟩ := (HB.out.2.ext F0.out).six hlt2
          have HE1 : Hid (cl[j] = cl'[j] → cl.take (j + 1) = cl'.take (j + 1)) := fun h => take_succ_eq hlt hlt2 Ht.out h
          have HE2 : Hid (cl = cl' → cl[j] = cl'[j]) := fun h => by subst h; rfl
          have k1 : (j : Int) < (cl.length : Int) := by omega
          have k2 : (j : Int) < (cl'.length : Int) := by omega
          simp only at x0 x1 x2 x3 x4 x5 y0 y1 y2 y3 y4 y5 a6 b6
          generalize cl[j] = x at *
          generalize cl'[j] = y at *
          have hne := neSt x y
          by_cases hxy : x = y
          · rw [decide_eq_true hxy] at hne
            have HE3 := Lib.hid (HE1.out hxy)
            clear hxy
            go_wp2_with fail
            go_quiet (fail)
            have E1 := Lib.hid (E0.out.drewN nq)
            go_wp2_with fail
            go_roundw
            case rel => exact ⟨j + 1, by omega, by go_num, E1.out, HE3.out⟩
            case measure => simp [intOf]; omega
          · rw [decide_eq_false hxy] at hne
            have HF : Hid (decide (cl = cl') = false) := decide_eq_false (fun h => hxy (HE2.out h))
            clear hxy
            go_wp2_with fail
            go_quiet (fail)
            have E1 := Lib.hid (F0.out.drewN nq)
            go_wp2_with fail
            go_ret
            rw [HF1.out, HF.out]
            exact ⟨rfl, E1.out⟩
        · have HF : Hid (decide (cl = cl') = true) := decide_eq_true (by
            have h := Ht.out
            rwa [List.take_of_length_le (by omega), List.take_of_length_le (by have := H4.out; omega)] at h)
          go_wp2_with fail
          go_ret
          rw [HF1.out, HF.out]
          exact ⟨rfl, F0.out⟩

set_option maxHeartbeats 4000000 in
theorem rasame_calls (a b : Ac) (AL AC BL BC : Option Addr) (cL cC dL dC : Nat) (w : World) (ha : RdA w a AL AC) (hb : RdA w b BL BC) (h1 : a.ls.length ≤ 100000) (h2 : a.cl.length ≤ 100000) (h3 : b.ls.length ≤ 100000) (h4 : b.cl.length ≤ 100000) :
    Calls Tryd.prog 20 #[acA a AL cL AC cC, acA b BL dL BC dC] w (RetV w (.bool (decide (a = b)))) := by
  have HQ := eq_dec2 a b
  by_cases hG : a.ten.toList = b.ten.toList ∧ (a.cap : Int) = b.cap ∧ (a.used : Int) = b.used ∧ (a.bits : Int) = b.bits ∧ (a.per : Int) = b.per ∧ (a.ls.length : Int) = b.ls.length ∧ (a.cl.length : Int) = b.cl.length
  · obtain ⟨e1, e2, e3, e4, e5, e6, e7⟩ := hG
    rw [HQ, decide_eq_true e1, decide_eq_true e2, decide_eq_true e3, decide_eq_true e4, decide_eq_true e5, decide_eq_true e6, decide_eq_true e7]
    simp only [Bool.true_and]
    obtain ⟨ten, cap, used, bits, per, ls, cl⟩ := a
    obtain ⟨ten', cap', used', bits', per', ls', cl'⟩ := b
    simp only at e1 e2 e3 e4 e5 e6 e7 h1 h2
    rw [str_eq] at e1
    obtain rfl : cap = cap' := by omega
    obtain rfl : used = used' := by omega
    obtain rfl : bits = bits' := by omega
    obtain rfl : per = per' := by omega
    subst e1
    exact rasame_loop ten cap used bits per ls ls' cl cl' AL AC BL BC cL cC dL dC w ha hb h1 h2 (by omega) (by omega)
  · have HN : Hid (decide (a = b) = false) := by
      show _ = _
      rw [HQ]
      simp only [Bool.and_eq_false_iff, decide_eq_false_iff_not]
      by_cases e1 : a.ten.toList = b.ten.toList
      · by_cases e2 : (a.cap : Int) = b.cap
        · by_cases e3 : (a.used : Int) = b.used
          · by_cases e4 : (a.bits : Int) = b.bits
            · by_cases e5 : (a.per : Int) = b.per
              · by_cases e6 : (a.ls.length : Int) = b.ls.length
                · by_cases e7 : (a.cl.length : Int) = b.cl.length
                  · exact absurd ⟨e1, e2, e3, e4, e5, e6, e7⟩ hG
                  all_goals simp [*]
                all_goals simp [*]
              all_goals simp [*]
            all_goals simp [*]
          all_goals simp [*]
        all_goals simp [*]
      all_goals simp [*]
    rw [HN.out]
    have HG := Lib.hid hG
    clear HQ hG ha hb HN
    unfold acA
    go_enter Tryd.func20, Tryd.ntmps20
    go_wp2_with (first | ((with_reducible show wpList _ _ _ ({ dst := some 2, op := Op.box 26 _, type := _, pos := _, after := _, guard := _ } :: _) _ _); refine bxA _ rfl 26 _ rfl _ rfl ?_; intro g1 w1 hg hs1 h1' e1; have HG1 := Lib.hid h1'; have E1 := Lib.hid e1; clear hg hs1 h1' e1) | ((with_reducible show wpList _ _ _ ({ dst := some 3, op := Op.box 26 _, type := _, pos := _, after := _, guard := _ } :: _) _ _); refine bxA _ rfl 26 _ rfl _ rfl ?_; intro g2 w2 hg hs1 h1' e1; have X1 := Lib.hid (HG1.out.ext e1); have X2 := Lib.hid h1'; have E2 := Lib.hid (E1.out.trans e1); obtain ⟨a0, a1, a2, a3, a4, a5, a6⟩ := ac_cells X1.out; obtain ⟨b0, b1, b2, b3, b4, b5, b6⟩ := ac_cells X2.out; clear hg hs1 h1' e1))
    all_goals first
      | (go_ret; exact ⟨rfl, E2.out⟩)
      | (exfalso; apply HG.out; simp_all)
end Go.Proofs.YtkbjnlbbfapgdaaDoor
