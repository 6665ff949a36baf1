/- The walk of CrcSeals. -/
import Derived.Test.YtjbejaieihchmaaCrc2
namespace Go.Proofs.Ytjbejaieihchmaa
open Go.RowKit

theorem openR_no {b : List UInt8} (h : ¬ isSeal b) : openR b = ([], false) := by rw [openR, if_neg h]
theorem openR_yes {b : List UInt8} (h : isSeal b) : openR b = (b.take (b.length - 4), true) := by rw [openR, if_pos h]

set_option maxRecDepth 100000 in
set_option maxHeartbeats 2000000 in
theorem crcSeals_walk (A : Option Addr) (c : Nat) (bs : List UInt8) (w : World) (hb : RdB w A bs) (hcap : bs.length ≤ c) (hcm : c ≤ 9223372036854775807) :
    Calls Try.prog 6 #[.slice A bs.length c] w (RetV w (.bool true)) := by
  by_cases hl : 1500 < bs.length
  · clear hb
    go_enter Try.func6, Try.ntmps6
    go_wp2_with fail
    refine (awake02 _).mono ?_
    rintro e w1 ⟨rfl, e1⟩
    have E1 := Lib.hid e1
    clear e1
    go_wp2_with fail
    go_ret
    exact ⟨rfl, E1.out⟩
  have Hb := Lib.hid hb
  clear hb
  have hl' : bs.length ≤ 1500 := by omega
  clear hl
  have hSl : (sealB bs).length ≤ 1504 := by rw [sealB_length]; omega
  have HO1 : Hid (openR (sealB bs) = (bs, true)) := openR_seal bs
  have HSd : Hid (bs ++ leB 4 (crcSum bs) = sealB bs) := rfl
  have HSi := Lib.hid (seal_iff bs)
  go_enter Try.func6, Try.ntmps6
  go_wp2_with fail
  refine (seal_calls A c bs _ Hb.out (by omega)).mono ?_
  rintro e w1 ⟨A1, c1, rfl, h1, e1⟩
  rw [HSd.out] at h1 ⊢
  have H1 := Lib.hid h1; have E1 := Lib.hid e1
  have hcap1 := h1.cap; have hcm1 := h1.capmax
  clear h1 e1
  generalize hS : sealB bs = S at *
  clear HSd
  have HS := Lib.hid hS
  clear hS
  go_wp2_with fail
  refine (open_calls A1 c1 S _ H1.out.rd (by omega) hcap1 hcm1).mono ?_
  rintro e w2 ⟨A2, c2, rfl, h2, e2⟩
  rw [HO1.out] at h2 ⊢
  have H2 := Lib.hid (h2.lower E1.out.size); have E2 := Lib.hid (E1.out.trans e2); have H12 := Lib.hid (H1.out.ext e2)
  clear h2 e2
  dsimp only at *
  go_wp2_with fail
  refine (open_calls A c bs _ (Hb.out.ext E2.out) (by omega) hcap hcm).mono ?_
  rintro e w3 ⟨A3, c3, rfl, h3, e3⟩
  have H3 := Lib.hid (h3.lower E2.out.size); have E3 := Lib.hid (E2.out.trans e3); have H13 := Lib.hid (H12.out.ext e3); have H23 := Lib.hid (H2.out.ext e3)
  clear h3 e3
  by_cases h4 : bs.length < 4
  · have HO2 : Hid (openR bs = ([], false)) := openR_no (fun h => by have := h.1; omega)
    have H3' : Hid (OwnB w3 w.heap.size A3 c3 []) := by have h := H3.out; rw [HO2.out] at h; exact h
    clear H3
    rw [HO2.out]
    dsimp only at *
    rw [show ([] : List UInt8).length = 0 from rfl]
    go_wp2_with fail
    refine (rseal_calls A c bs _ (Hb.out.ext E3.out) (by omega)).mono ?_
    rintro e w4 ⟨A4, c4, rfl, h4', e4⟩
    rw [HS.out] at h4' ⊢
    have H4 := Lib.hid h4'; have E4 := Lib.hid (E3.out.trans e4); have H14 := Lib.hid (H13.out.ext e4); have H24 := Lib.hid (H23.out.ext e4)
    clear h4' e4
    go_wp2_with fail
    refine (same_calls A1 A4 c1 c4 S S _ H14.out.rd H4.out.rd (by omega) (by omega)).mono ?_
    rintro e w5 ⟨rfl, n5, rfl⟩
    rw [decide_eq_true (rfl : S = S)]
    go_wp2_with fail
    refine (same_calls A2 A c2 c bs bs _ (H24.out.rd.ext ((Ext.refl _).drewN n5)) ((Hb.out.ext E4.out).ext ((Ext.refl _).drewN n5)) (by omega) (by omega)).mono ?_
    rintro e w6 ⟨rfl, n6, rfl⟩
    rw [decide_eq_true (rfl : bs = bs)]
    have E6 := Lib.hid (E4.out.drewN (n5 + n6))
    go_wp2_with fail
    refine (awake02 _).mono ?_
    rintro e w7 ⟨rfl, e7⟩
    have E7 := Lib.hid (E6.out.trans e7)
    clear e7
    go_wp2_with fail
    go_ret
    exact ⟨rfl, E7.out⟩
  obtain ⟨n, hn⟩ : ∃ n, bs.length = n + 4 := ⟨bs.length - 4, by omega⟩
  have HLn : Hid ((bs.take n).length = n) := by show _ = _; simp; omega
  have hSb : (sealB (bs.take n)).length ≤ 1504 := by rw [sealB_length, HLn.out]; omega
  have HSn : Hid (isSeal bs ↔ sealB (bs.take n) = bs) := by
    show _ ↔ _
    rw [HSi.out, hn, Nat.add_sub_cancel]
    exact ⟨fun h => h.2, fun h => ⟨by omega, h⟩⟩
  have HTn : Hid (bs.take (bs.length - 4) = bs.take n) := by show _ = _; rw [hn, Nat.add_sub_cancel]
  have HRn : Hid (∀ W, Ext w W → RdB W A (bs.take n)) := fun W hW => (Hb.out.ext hW).take n
  have hmx : max (0 : Int) ((bs.length : Int) - 4) = (n : Int) := by omega
  have hsub : (bs.length : Int) - 4 = (n : Int) := by omega
  have hnc : (n : Int) ≤ c := by omega
  have hge : (4 : Int) ≤ (bs.length : Int) := by omega
  have Hn := Lib.hid hn
  have hn' : n ≤ 1500 := by omega
  clear hn
  generalize hT : bs.take n = T at *
  have HT := Lib.hid hT
  clear hT
  have hrseal : Hid (∀ W, Ext w W → Calls Try.prog 31 #[.slice A n c] W (RetB W (sealB T))) := by
    intro W hW
    have h := rseal_calls A c T W (HRn.out W hW) (by rw [HLn.out]; omega)
    rw [HLn.out] at h
    exact h
  rcases Nat.eq_zero_or_pos n with hn0 | hn0
  · subst hn0
    by_cases hs : isSeal bs
    · have HO2 : Hid (openR bs = (T, true)) := by show _ = _; rw [openR_yes hs, HTn.out]
      have HE : Hid (sealB T = bs) := HSn.out.1 hs
      have H3' : Hid (OwnB w3 w.heap.size A3 c3 T) := by have h := H3.out; rw [HO2.out] at h; exact h
      clear H3 hs
      rw [HO2.out]
      dsimp only at *
      go_wp2_with fail
      refine (hrseal.out _ E3.out).mono ?_
      rintro e w4 ⟨A4, c4, rfl, h4', e4⟩
      rw [HE.out] at h4' ⊢
      have H4 := Lib.hid h4'; have E4 := Lib.hid (E3.out.trans e4); have H14 := Lib.hid (H13.out.ext e4); have H24 := Lib.hid (H23.out.ext e4); have H34 := Lib.hid (H3'.out.ext e4)
      clear h4' e4 hmx
      go_wp2_with fail
      refine (same_calls A4 A c4 c bs bs _ H4.out.rd (Hb.out.ext E4.out) (by omega) (by omega)).mono ?_
      rintro e w5 ⟨rfl, n5, rfl⟩
      rw [decide_eq_true (rfl : bs = bs)]
      go_wp2_with fail
      refine (rseal_calls A c bs _ ((Hb.out.ext E4.out).ext ((Ext.refl _).drewN n5)) (by omega)).mono ?_
      rintro e w6 ⟨A6, c6, rfl, h6, e6⟩
      rw [HS.out] at h6 ⊢
      have H6 := Lib.hid h6; have E46 := Lib.hid (((Ext.refl w4).drewN n5).trans e6); have E6 := Lib.hid ((E4.out.drewN n5).trans e6)
      clear h6 e6
      go_wp2_with fail
      refine (same_calls A1 A6 c1 c6 S S _ (H14.out.rd.ext E46.out) H6.out.rd (by omega) (by omega)).mono ?_
      rintro e w7 ⟨rfl, n7, rfl⟩
      rw [decide_eq_true (rfl : S = S)]
      go_wp2_with fail
      refine (same_calls A2 A c2 c bs bs _ ((H24.out.rd.ext E46.out).ext ((Ext.refl _).drewN n7)) ((Hb.out.ext E6.out).ext ((Ext.refl _).drewN n7)) (by omega) (by omega)).mono ?_
      rintro e w8 ⟨rfl, n8, rfl⟩
      rw [decide_eq_true (rfl : bs = bs)]
      have hTl : T.length ≤ 1500 := by rw [HLn.out]; omega
      have hsame : Hid (∀ W, Ext w6 W → Calls Try.prog 17 #[.slice A3 T.length c3, .slice A 0 c] W fun e w' => e = .returned (.bool true) ∧ ∃ k, w' = W.drewN k) := by
        intro W hW
        have h := same_calls A3 A c3 c T T W ((H34.out.rd.ext E46.out).ext hW) (HRn.out W (E6.out.trans hW)) (by omega) (by omega)
        rw [decide_eq_true (rfl : T = T)] at h
        rw [show Value.slice A T.length c = .slice A 0 c from by rw [HLn.out]] at h
        exact h
      go_wp2_with fail
      refine (hsame.out _ ((Ext.refl _).drewN (n7 + n8))).mono ?_
      rintro e w9 ⟨rfl, n9, rfl⟩
      have E9 := Lib.hid (E6.out.drewN (n7 + n8 + n9))
      go_wp2_with fail
      refine (awake02 _).mono ?_
      rintro e w10 ⟨rfl, e10⟩
      have E10 := Lib.hid (E9.out.trans e10)
      clear e10
      go_wp2_with fail
      go_ret
      exact ⟨rfl, E10.out⟩
    · have HO2 : Hid (openR bs = ([], false)) := openR_no hs
      have hne : sealB T ≠ bs := fun h => hs (HSn.out.2 h)
      have HNE := Lib.hid hne
      clear H3 hs hne
      rw [HO2.out]
      dsimp only at *
      rw [show ([] : List UInt8).length = 0 from rfl]
      generalize sealB T = ST at *
      go_wp2_with fail
      refine (hrseal.out _ E3.out).mono ?_
      rintro e w4 ⟨A4, c4, rfl, h4', e4⟩
      have H4 := Lib.hid h4'; have E4 := Lib.hid (E3.out.trans e4); have H14 := Lib.hid (H13.out.ext e4); have H24 := Lib.hid (H23.out.ext e4)
      clear h4' e4 hmx
      go_wp2_with fail
      refine (same_calls A4 A c4 c ST bs _ H4.out.rd (Hb.out.ext E4.out) (by omega) (by omega)).mono ?_
      rintro e w5 ⟨rfl, n5, rfl⟩
      rw [decide_eq_false HNE.out]
      go_wp2_with fail
      refine (rseal_calls A c bs _ ((Hb.out.ext E4.out).ext ((Ext.refl _).drewN n5)) (by omega)).mono ?_
      rintro e w6 ⟨A6, c6, rfl, h6, e6⟩
      rw [HS.out] at h6 ⊢
      have H6 := Lib.hid h6; have E46 := Lib.hid (((Ext.refl w4).drewN n5).trans e6); have E6 := Lib.hid ((E4.out.drewN n5).trans e6)
      clear h6 e6
      go_wp2_with fail
      refine (same_calls A1 A6 c1 c6 S S _ (H14.out.rd.ext E46.out) H6.out.rd (by omega) (by omega)).mono ?_
      rintro e w7 ⟨rfl, n7, rfl⟩
      rw [decide_eq_true (rfl : S = S)]
      go_wp2_with fail
      refine (same_calls A2 A c2 c bs bs _ ((H24.out.rd.ext E46.out).ext ((Ext.refl _).drewN n7)) ((Hb.out.ext E6.out).ext ((Ext.refl _).drewN n7)) (by omega) (by omega)).mono ?_
      rintro e w8 ⟨rfl, n8, rfl⟩
      rw [decide_eq_true (rfl : bs = bs)]
      have E8 := Lib.hid (E6.out.drewN (n7 + n8))
      go_wp2_with fail
      refine (awake02 _).mono ?_
      rintro e w9 ⟨rfl, e9⟩
      have E9 := Lib.hid (E8.out.trans e9)
      clear e9
      go_wp2_with fail
      go_ret
      exact ⟨rfl, E9.out⟩
  · have hn1 : (0 : Int) < (n : Int) := by omega
    by_cases hs : isSeal bs
    · have HO2 : Hid (openR bs = (T, true)) := by show _ = _; rw [openR_yes hs, HTn.out]
      have HE : Hid (sealB T = bs) := HSn.out.1 hs
      have H3' : Hid (OwnB w3 w.heap.size A3 c3 T) := by have h := H3.out; rw [HO2.out] at h; exact h
      clear H3 hs
      rw [HO2.out]
      dsimp only at *
      go_wp2_with fail
      refine (hrseal.out _ E3.out).mono ?_
      rintro e w4 ⟨A4, c4, rfl, h4', e4⟩
      rw [HE.out] at h4' ⊢
      have H4 := Lib.hid h4'; have E4 := Lib.hid (E3.out.trans e4); have H14 := Lib.hid (H13.out.ext e4); have H24 := Lib.hid (H23.out.ext e4); have H34 := Lib.hid (H3'.out.ext e4)
      clear h4' e4 hmx
      go_wp2_with fail
      refine (same_calls A4 A c4 c bs bs _ H4.out.rd (Hb.out.ext E4.out) (by omega) (by omega)).mono ?_
      rintro e w5 ⟨rfl, n5, rfl⟩
      rw [decide_eq_true (rfl : bs = bs)]
      go_wp2_with fail
      refine (rseal_calls A c bs _ ((Hb.out.ext E4.out).ext ((Ext.refl _).drewN n5)) (by omega)).mono ?_
      rintro e w6 ⟨A6, c6, rfl, h6, e6⟩
      rw [HS.out] at h6 ⊢
      have H6 := Lib.hid h6; have E46 := Lib.hid (((Ext.refl w4).drewN n5).trans e6); have E6 := Lib.hid ((E4.out.drewN n5).trans e6)
      clear h6 e6
      go_wp2_with fail
      refine (same_calls A1 A6 c1 c6 S S _ (H14.out.rd.ext E46.out) H6.out.rd (by omega) (by omega)).mono ?_
      rintro e w7 ⟨rfl, n7, rfl⟩
      rw [decide_eq_true (rfl : S = S)]
      go_wp2_with fail
      refine (same_calls A2 A c2 c bs bs _ ((H24.out.rd.ext E46.out).ext ((Ext.refl _).drewN n7)) ((Hb.out.ext E6.out).ext ((Ext.refl _).drewN n7)) (by omega) (by omega)).mono ?_
      rintro e w8 ⟨rfl, n8, rfl⟩
      rw [decide_eq_true (rfl : bs = bs)]
      have hTl : T.length ≤ 1500 := by rw [HLn.out]; omega
      have hsame : Hid (∀ W, Ext w6 W → Calls Try.prog 17 #[.slice A3 T.length c3, .slice A n c] W fun e w' => e = .returned (.bool true) ∧ ∃ k, w' = W.drewN k) := by
        intro W hW
        have h := same_calls A3 A c3 c T T W ((H34.out.rd.ext E46.out).ext hW) (HRn.out W (E6.out.trans hW)) (by omega) (by omega)
        rw [decide_eq_true (rfl : T = T)] at h
        rw [show Value.slice A T.length c = .slice A n c from by rw [HLn.out]] at h
        exact h
      go_wp2_with fail
      refine (hsame.out _ ((Ext.refl _).drewN (n7 + n8))).mono ?_
      rintro e w9 ⟨rfl, n9, rfl⟩
      have E9 := Lib.hid (E6.out.drewN (n7 + n8 + n9))
      go_wp2_with fail
      refine (awake02 _).mono ?_
      rintro e w10 ⟨rfl, e10⟩
      have E10 := Lib.hid (E9.out.trans e10)
      clear e10
      go_wp2_with fail
      go_ret
      exact ⟨rfl, E10.out⟩
    · have HO2 : Hid (openR bs = ([], false)) := openR_no hs
      have hne : sealB T ≠ bs := fun h => hs (HSn.out.2 h)
      have HNE := Lib.hid hne
      clear H3 hs hne
      rw [HO2.out]
      dsimp only at *
      rw [show ([] : List UInt8).length = 0 from rfl]
      generalize sealB T = ST at *
      go_wp2_with fail
      refine (hrseal.out _ E3.out).mono ?_
      rintro e w4 ⟨A4, c4, rfl, h4', e4⟩
      have H4 := Lib.hid h4'; have E4 := Lib.hid (E3.out.trans e4); have H14 := Lib.hid (H13.out.ext e4); have H24 := Lib.hid (H23.out.ext e4)
      clear h4' e4 hmx
      go_wp2_with fail
      refine (same_calls A4 A c4 c ST bs _ H4.out.rd (Hb.out.ext E4.out) (by omega) (by omega)).mono ?_
      rintro e w5 ⟨rfl, n5, rfl⟩
      rw [decide_eq_false HNE.out]
      go_wp2_with fail
      refine (rseal_calls A c bs _ ((Hb.out.ext E4.out).ext ((Ext.refl _).drewN n5)) (by omega)).mono ?_
      rintro e w6 ⟨A6, c6, rfl, h6, e6⟩
      rw [HS.out] at h6 ⊢
      have H6 := Lib.hid h6; have E46 := Lib.hid (((Ext.refl w4).drewN n5).trans e6); have E6 := Lib.hid ((E4.out.drewN n5).trans e6)
      clear h6 e6
      go_wp2_with fail
      refine (same_calls A1 A6 c1 c6 S S _ (H14.out.rd.ext E46.out) H6.out.rd (by omega) (by omega)).mono ?_
      rintro e w7 ⟨rfl, n7, rfl⟩
      rw [decide_eq_true (rfl : S = S)]
      go_wp2_with fail
      refine (same_calls A2 A c2 c bs bs _ ((H24.out.rd.ext E46.out).ext ((Ext.refl _).drewN n7)) ((Hb.out.ext E6.out).ext ((Ext.refl _).drewN n7)) (by omega) (by omega)).mono ?_
      rintro e w8 ⟨rfl, n8, rfl⟩
      rw [decide_eq_true (rfl : bs = bs)]
      have E8 := Lib.hid (E6.out.drewN (n7 + n8))
      go_wp2_with fail
      refine (awake02 _).mono ?_
      rintro e w9 ⟨rfl, e9⟩
      have E9 := Lib.hid (E8.out.trans e9)
      clear e9
      go_wp2_with fail
      go_ret
      exact ⟨rfl, E9.out⟩
end Go.Proofs.Ytjbejaieihchmaa
