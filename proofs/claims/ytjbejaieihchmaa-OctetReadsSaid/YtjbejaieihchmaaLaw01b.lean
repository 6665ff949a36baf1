/- The walks of OctetBack and OctetTexts. -/
import Derived.Test.YtjbejaieihchmaaCursor2
import Derived.Test.YtjbejaieihchmaaLaw01a
namespace Go.Proofs.Ytjbejaieihchmaa
open Go.RowKit

theorem nil_take (n : Int) (w : World) : Calls Try.prog 45 #[.pointer none, .int .i64 n] w fun e w' => e = .returned (.slice none 0 0) ∧ w = w' := by
  go_enter Try.func45, Try.ntmps45
  go_wp2
  go_ret
  exact ⟨rfl, rfl⟩
theorem nil_number (n : Int) (w : World) : Calls Try.prog 37 #[.pointer none, .int .i64 n] w fun e w' => e = .returned (.int .u64 0) ∧ w = w' := by
  by_cases h : okW n = true
  · have Hn := Lib.hid h
    have h0 : ((0 : Int) != n) = true := by rw [okW_iff] at h; rw [bne_iff_ne]; omega
    clear h
    go_enter Try.func37, Try.ntmps37
    go_wp2_with fail
    refine (known_calls _ _).mono ?_
    rintro e w' ⟨rfl, rfl⟩
    rw [Hn.out]
    go_wp2_with fail
    refine (nil_take _ _).mono ?_
    rintro e w' ⟨rfl, rfl⟩
    go_wp2_with fail
    go_ret
    exact ⟨rfl, rfl⟩
  · have Hn := Lib.hid (Bool.eq_false_iff.2 h)
    clear h
    go_enter Try.func37, Try.ntmps37
    go_wp2_with fail
    refine (known_calls _ _).mono ?_
    rintro e w' ⟨rfl, rfl⟩
    rw [Hn.out]
    go_wp2_with fail
    go_ret
    exact ⟨rfl, rfl⟩
theorem nil_bytes (w : World) : Calls Try.prog 38 #[.pointer none, .int .i64 3] w (RetB w []) := by
  go_enter Try.func38, Try.ntmps38
  go_wp2_with fail
  refine (nil_take _ _).mono ?_
  rintro e w' ⟨rfl, rfl⟩
  go_wp2_with (at_builtin; refine cpyB _ rfl (.const (.slice none 0 0)) (.tmp 9) rfl rfl none 0 [] rfl ?_ RdB.nil ?c2; intro A1 c1 w2 h1 e1; have H1 := Lib.hid h1; have E1 := Lib.hid e1; clear h1 e1)
  case c2 => simp
  go_ret
  exact ⟨A1, c1, rfl, H1.out, E1.out⟩
theorem nil_text (w : World) : Calls Try.prog 33 #[.pointer none, .int .i64 1, .int .i64 9] w fun e w' => e = .returned (.string ⟨#[]⟩) ∧ w = w' := by
  go_enter Try.func33, Try.ntmps33
  go_wp2_with fail
  refine (nil_number _ _).mono ?_
  rintro e w' ⟨rfl, rfl⟩
  go_wp2_with fail
  go_ret
  exact ⟨rfl, rfl⟩
theorem nil_left (w : World) : Calls Try.prog 36 #[.pointer none] w fun e w' => e = .returned (.int .i64 0) ∧ w = w' := by
  go_enter Try.func36, Try.ntmps36
  go_wp2
  go_ret
  exact ⟨rfl, rfl⟩
theorem nil_err (w : World) : Calls Try.prog 34 #[.pointer none] w fun e w' => e = .returned (.int .i64 1) ∧ w = w' := by
  go_enter Try.func34, Try.ntmps34
  go_wp2
  go_ret
  exact ⟨rfl, rfl⟩
theorem nil_done (w : World) : Calls Try.prog 39 #[.pointer none] w fun e w' => e = .returned (.int .i64 1) ∧ w = w' := by
  go_enter Try.func39, Try.ntmps39
  go_wp2_with fail
  refine (nil_err _).mono ?_
  rintro e w' ⟨rfl, rfl⟩
  go_wp2_with fail
  go_ret
  exact ⟨rfl, rfl⟩

theorem ext_grown {w w1 w2 : World} {g : Nat} (h : Ext w w1) (hg : w1.grownBy w2 (some g)) (hw : w.heap.size ≤ g) : Ext w w2 :=
  h.grown hg (fun k hk => by cases hk; exact hw)

theorem takeC_all (l b : List UInt8) : takeC (l ++ b) 0 0 l.length = (l, l.length, 0) := by
  simp [takeC]

set_option maxHeartbeats 1000000 in
theorem octetBack_walk (A : Option Addr) (c : Nat) (bs : List UInt8) (width : Int) (n : Nat) (w : World) (hb : RdB w A bs) (hn : n < 18446744073709551616) (hm : bs.length ≤ 9223372036854775807) :
    Calls Try.prog 10 #[.int .i64 width, .int .u64 n, .slice A bs.length c] w (RetV w (.bool true)) := by
  by_cases hl : 500 < bs.length
  · clear hb
    go_enter Try.func10, Try.ntmps10
    go_wp2_with fail
    refine (awake01 _).mono ?_
    rintro e w1 ⟨rfl, e1⟩
    have E1 := Lib.hid e1
    clear e1
    go_wp2_with fail
    go_ret
    exact ⟨rfl, E1.out⟩
  have Hb := Lib.hid hb
  clear hb
  have hl' : bs.length ≤ 500 := by omega
  clear hl
  go_enter Try.func10, Try.ntmps10
  go_wp2_with fail
  refine (nil_number _ _).mono ?_
  rintro e w' ⟨rfl, rfl⟩
  go_wp2_with fail
  refine (nil_bytes _).mono ?_
  rintro e w1 ⟨A1, c1, rfl, h1, e1⟩
  have E1 := Lib.hid e1
  clear h1 e1
  rw [show ([] : List UInt8).length = 0 from rfl]
  go_wp2_with fail
  refine (nil_text _).mono ?_
  rintro e w' ⟨rfl, rfl⟩
  go_wp2_with fail
  refine (nil_left _).mono ?_
  rintro e w' ⟨rfl, rfl⟩
  go_wp2_with fail
  refine (nil_err _).mono ?_
  rintro e w' ⟨rfl, rfl⟩
  go_wp2_with fail
  refine (nil_done _).mono ?_
  rintro e w' ⟨rfl, rfl⟩
  go_wp2_with fail
  refine (rfits_calls width n _ hn).mono ?_
  rintro e w2 ⟨rfl, e2⟩
  have E2 := Lib.hid (E1.out.trans e2)
  clear e2
  by_cases hf : fitsW width n = true
  · have Hf := Lib.hid hf
    have ho : okW width = true := by
      rcases hh : okW width with _ | _
      · simp [fitsW, hh] at hf
      · rfl
    obtain ⟨k, rfl, hk⟩ : ∃ k : Nat, width = k ∧ k ≤ 8 := by
      rw [okW_iff] at ho
      exact ⟨width.toNat, by omega, by omega⟩
    have hlt : n < 256 ^ k := by rw [fitsW_yes ho] at hf; simpa using hf
    have Ho := Lib.hid ho
    have Hlt := Lib.hid hlt
    have HN : Hid (leN (leB k n) = n) := by show _ = _; rw [leN_leB, Nat.mod_eq_of_lt hlt]
    have HP : Hid (putW [] k n = leB k n) := by show _ = _; simp [putW, ho]
    have HK : Hid ((leB k n).length = k) := leB_length k n
    rw [hf]
    clear hf ho hlt
    generalize leB k n = L at *
    go_wp2_with fail
    refine (put_calls none 0 [] k n _ RdB.nil (by simp) hn).mono ?_
    rintro e w3 ⟨A3, c3, rfl, h3, e3⟩
    rw [HP.out] at h3 ⊢
    have H3 := Lib.hid (h3.lower E2.out.size)
    have E3 := Lib.hid (E2.out.trans e3)
    have hL : L.length ≤ 8 := by rw [HK.out]; exact hk
    clear h3 e3
    go_wp2_with (at_builtin; refine appB _ rfl (.tmp 50) (.tmp 51) rfl w.heap.size A3 c3 L rfl A c bs rfl ?_ H3.out (Hb.out.ext E3.out) ?c2 E3.out.size; intro A4 c4 w4 h4 g4 k4; have H4 := Lib.hid h4; have E4 : Hid (Ext w w4) := E3.out.grown g4 (fun g hg => (H3.out.base_ g hg).1); clear h4 g4 k4)
    case c2 => omega
    have hML : (L ++ bs).length = L.length + bs.length := List.length_append
    rw [← hML]
    have hM : (L ++ bs).length ≤ 508 := by omega
    have HM : Hid ((L ++ bs).length - k = bs.length) := by show _ = _; rw [hML, HK.out]; omega
    have HT : Hid (numC (L ++ bs) 0 0 k = (n, k, 0)) := by
      show _ = _
      rw [numC, if_pos Ho.out, Int.toNat_natCast]
      have h := takeC_all L bs
      rw [HK.out] at h
      rw [h, HN.out]
    generalize L ++ bs = M at *
    clear hML
    refine (newCursor_calls A4 c4 M _ H4.out.rd (by omega)).mono ?_
    rintro e w5 ⟨g, rfl, hg5, hc5, e5⟩
    have HC5 := Lib.hid hc5
    have E5 := Lib.hid (E4.out.trans e5)
    have hg : w.heap.size ≤ g := by have := E4.out.size; omega
    clear hc5 e5 hg5
    go_wp2_with fail
    refine (cnumber_calls g M 0 0 k _ HC5.out (by omega)).mono ?_
    rintro e w6 ⟨rfl, g6, hc6⟩
    rw [HT.out] at hc6 ⊢
    have HC6 := Lib.hid hc6
    have E6 := Lib.hid (ext_grown E5.out g6 hg)
    clear g6 hc6
    dsimp only at *
    go_wp2_with fail
    refine (cleft_calls g M k 0 _ HC6.out (by omega)).mono ?_
    rintro e w7 ⟨rfl, m7, rfl⟩
    rw [HM.out]
    go_wp2_with fail
    refine (cerr_calls g M k 0 _ (HC6.out.drewN m7)).mono ?_
    rintro e w' ⟨rfl, rfl⟩
    have E7 := Lib.hid (E6.out.drewN m7)
    go_wp2_with fail
    refine (awake01 _).mono ?_
    rintro e w8 ⟨rfl, e8⟩
    have E8 := Lib.hid (E7.out.trans e8)
    clear e8
    go_wp2_with fail
    go_ret
    exact ⟨rfl, E8.out⟩
  · have hf' : fitsW width n = false := by simpa using hf
    rw [hf']
    clear hf hf'
    go_wp2_with fail
    refine (awake01 _).mono ?_
    rintro e w3 ⟨rfl, e3⟩
    have E3 := Lib.hid (E2.out.trans e3)
    clear e3
    go_wp2_with fail
    go_ret
    exact ⟨rfl, E3.out⟩
end Go.Proofs.Ytjbejaieihchmaa
