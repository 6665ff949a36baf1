/- Contracts of ref12's Lists, Valid. -/
import Derived.Test.YtjbejaieihchmaaBoxV
set_option maxRecDepth 100000
namespace Go.Proofs.Ytjbejaieihchmaa
open Go.RowKit

theorem take_eq_succ {xss yss : List (List UInt8)} {k : Nat} (hx : k < xss.length) (hy : k < yss.length) (h : xss.take k = yss.take k) (he : xss[k] = yss[k]) : xss.take (k + 1) = yss.take (k + 1) := by
  rw [List.take_succ_eq_append_getElem hx, List.take_succ_eq_append_getElem hy, h, he]

set_option maxHeartbeats 1000000 in
theorem lists_calls (A B : Option Addr) (c d : Nat) (vs us : List Value) (xss yss : List (List UInt8)) (w : World) (ha : Rd w A vs) (hb : Rd w B us) (ea : EL w vs xss) (eb : EL w us yss)
    (hl : xss.length ≤ 1000000) (hm : yss.length ≤ 1000000) (hx : ∀ x ∈ xss, x.length ≤ 1000000) (hy : ∀ x ∈ yss, x.length ≤ 1000000) :
    Calls Try.prog 44 #[.slice A xss.length c, .slice B yss.length d] w (RetV w (.bool (decide (xss = yss)))) := by
  by_cases hlen : xss.length = yss.length
  · have HA := Lib.hid ha
    have HB := Lib.hid hb
    have EA := Lib.hid ea
    have EB := Lib.hid eb
    have HX := Lib.hid hx
    have HY := Lib.hid hy
    have HLn := Lib.hid hlen
    clear ha hb ea eb hx hy
    have e1 : ((xss.length : Int) != (yss.length : Int)) = false := by simp [hlen]
    clear hlen
    go_enter Try.func44, Try.ntmps44
    go_wp2_with fail
    go_loopw [5] (fun i wr => ∃ k : Nat, k ≤ xss.length ∧ i = .int .i64 k ∧ Ext w wr ∧ xss.take k = yss.take k) (fun i _ => xss.length - (intOf i).toNat)
    case atStart => exact ⟨0, by omega, rfl, Ext.refl _, rfl⟩
    case round =>
      obtain ⟨k, hk, rfl, hE, ht⟩ := hrel
      have Ht := Lib.hid ht
      have E0 := Lib.hid hE
      clear ht hE
      by_cases hlt : k < xss.length
      · have hlt2 : k < yss.length := by have := HLn.out; omega
        obtain ⟨va, hva⟩ : ∃ v, vs[k]? = some v := ⟨_, List.getElem?_eq_getElem (by have := EA.out.1; omega)⟩
        obtain ⟨ub, hub⟩ : ∃ v, us[k]? = some v := ⟨_, List.getElem?_eq_getElem (by have := EB.out.1; omega)⟩
        obtain ⟨A1, c1, rfl, r1, l1, m1⟩ := EA.out.2 k va xss[k] hva (List.getElem?_eq_getElem hlt)
        obtain ⟨B1, d1, rfl, r2, l2, m2⟩ := EB.out.2 k ub yss[k] hub (List.getElem?_eq_getElem hlt2)
        obtain ⟨ad, rfl, hc1⟩ := HA.out k _ hva
        obtain ⟨bd, rfl, hc2⟩ := HB.out k _ hub
        have hx1 := HX.out _ (List.getElem_mem hlt)
        have hy1 := HY.out _ (List.getElem_mem hlt2)
        have HE1 : Hid (xss[k] = yss[k] → xss.take (k + 1) = yss.take (k + 1)) := fun h => take_eq_succ hlt hlt2 Ht.out h
        have HE2 : Hid (xss = yss → xss[k] = yss[k]) := fun h => by subst h; rfl
        have R1 := Lib.hid r1
        have R2 := Lib.hid r2
        have HC1 := Lib.hid hc1
        have HC2 := Lib.hid hc2
        clear hva hub r1 r2 hc1 hc2
        generalize xss[k] = x at *
        generalize yss[k] = y at *
        have HSM : Hid (∀ W, Ext w W → Calls Try.prog 17 #[.slice A1 x.length c1, .slice B1 y.length d1] W (RetV W (.bool (decide (x = y))))) :=
          fun W e => sameE A1 B1 c1 d1 x y W (R1.out.ext e) (R2.out.ext e) hx1 hy1
        have KS : Hid (∀ w', Ext w w' → Ext w w' ∧ w'.cell? (ad.add k) = some (.slice A1 x.length c1) ∧ w'.cell? (bd.add k) = some (.slice B1 y.length d1)) := fun w' e => ⟨e, e.cell HC1.out, e.cell HC2.out⟩
        go_wp2_with fail
        go_region_held3 (fun w' => Ext w w' ∧ w'.cell? (ad.add k) = some (.slice A1 x.length c1) ∧ w'.cell? (bd.add k) = some (.slice B1 y.length d1)) (first | exact KS.out _ E0.out.drew | exact KS.out _ (by assumption))
          (first | (go_at_call 17; refine (HSM.out _ (by first | assumption | exact E0.out.drew)).mono ?_; rintro e w6 ⟨rfl, e6⟩; have S6 : Ext w w6 := Ext.trans (by first | assumption | exact E0.out.drew) e6; clear e6))
        have E6 := Lib.hid S6
        clear S6
        by_cases hxy : x = y
        · rw [decide_eq_true hxy]
          have HE3 := Lib.hid (HE1.out hxy)
          clear hxy
          go_wp2_with fail
          go_roundw
          case rel => exact ⟨k + 1, by omega, by go_num, E6.out, HE3.out⟩
          case measure => simp [intOf]; omega
        · rw [decide_eq_false hxy]
          have HF : Hid (decide (xss = yss) = false) := decide_eq_false (fun h => hxy (HE2.out h))
          clear hxy
          go_wp2_with fail
          go_ret
          rw [HF.out]
          exact ⟨rfl, E6.out⟩
      · go_wp2_with fail
        go_ret
        have hF : decide (xss = yss) = true := decide_eq_true (by
          have h := Ht.out
          rwa [List.take_of_length_le (by omega), List.take_of_length_le (by have := HLn.out; omega)] at h)
        rw [hF]
        exact ⟨rfl, E0.out⟩
  · have e1 : ((xss.length : Int) != (yss.length : Int)) = true := by simp; omega
    have HF : Hid (decide (xss = yss) = false) := decide_eq_false (fun h => hlen (by rw [h]))
    rw [HF.out]
    clear hlen
    go_enter Try.func44, Try.ntmps44
    go_wp2_with fail
    go_ret
    exact ⟨rfl, Ext.refl _⟩
end Go.Proofs.Ytjbejaieihchmaa
