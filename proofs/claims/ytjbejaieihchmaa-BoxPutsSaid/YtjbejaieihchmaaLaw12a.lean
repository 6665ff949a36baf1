/- The walk of BoxPuts. -/
import Derived.Test.YtjbejaieihchmaaBox
namespace Go.Proofs.Ytjbejaieihchmaa
open Go.RowKit

set_option maxHeartbeats 400000 in
theorem boxPuts_early (A B : Option Addr) (c d : Nat) (xs bs : List UInt8) (w : World) (hx : xs.length ≤ 9223372036854775807) (hy : bs.length ≤ 9223372036854775807)
    (h : 300 < xs.length ∨ (300 < bs.length ∧ bs.length < 4090) ∨ 4100 < bs.length) :
    Calls Try.prog 5 #[.slice A xs.length c, .slice B bs.length d] w (RetV w (.bool true)) := by
  by_cases h1 : 300 < xs.length
  · clear h
    go_enter Try.func5, Try.ntmps5
    go_wp2_with fail
    refine (awake12 _).mono ?_
    rintro e w1 ⟨rfl, e1⟩
    have E1 := Lib.hid e1
    clear e1
    go_wp2_with fail
    go_ret
    exact ⟨rfl, E1.out⟩
  by_cases h2 : 300 < bs.length
  · by_cases h3 : bs.length < 4090
    · clear h
      go_enter Try.func5, Try.ntmps5
      go_wp2_with fail
      refine (awake12 _).mono ?_
      rintro e w1 ⟨rfl, e1⟩
      have E1 := Lib.hid e1
      clear e1
      go_wp2_with fail
      go_ret
      exact ⟨rfl, E1.out⟩
    · have h4 : 4100 < bs.length := by omega
      clear h
      go_enter Try.func5, Try.ntmps5
      go_wp2_with fail
      refine (awake12 _).mono ?_
      rintro e w1 ⟨rfl, e1⟩
      have E1 := Lib.hid e1
      clear e1
      go_wp2_with fail
      go_ret
      exact ⟨rfl, E1.out⟩
  · omega

set_option maxHeartbeats 400000 in
theorem boxPuts_walk (A B : Option Addr) (c d : Nat) (xs bs : List UInt8) (w : World) (ha : RdB w A xs) (hb : RdB w B bs) (hx : xs.length ≤ 9223372036854775807) (hy : bs.length ≤ 9223372036854775807) :
    Calls Try.prog 5 #[.slice A xs.length c, .slice B bs.length d] w (RetV w (.bool true)) := by
  by_cases hearly : 300 < xs.length ∨ (300 < bs.length ∧ bs.length < 4090) ∨ 4100 < bs.length
  · exact boxPuts_early A B c d xs bs w hx hy hearly
  have Ha := Lib.hid ha
  have Hb := Lib.hid hb
  clear ha hb
  have hxl : xs.length ≤ 300 := by omega
  have hbl : bs.length ≤ 4100 := by omega
  have hmid : bs.length ≤ 300 ∨ 4090 ≤ bs.length := by omega
  clear hearly
  by_cases h0 : bs.length = 0
  · have H0 := Lib.hid h0
    have h0' : ((bs.length : Int) == 0) = true := by simp [h0]
    have hs : bs.length ≤ 300 := by omega
    clear h0 hmid
    go_enter Try.func5, Try.ntmps5
    go_wp2_with fail
    refine (bput_bad A B c d xs bs _ hy (.inl H0.out)).mono ?_
    rintro e w' ⟨rfl, rfl⟩
    rw [if_pos H0.out]
    go_wp2_with fail
    refine (size_calls 0 _ (by omega) (by omega)).mono ?_
    rintro e w' ⟨rfl, rfl⟩
    go_wp2_with fail
    refine (awake12 _).mono ?_
    rintro e w1 ⟨rfl, e1⟩
    have E1 := Lib.hid e1
    clear e1
    go_wp2_with fail
    go_ret
    exact ⟨rfl, E1.out⟩
  by_cases h4 : 4096 < bs.length
  · clear hmid
    have h0' : ((bs.length : Int) == 0) = false := beq_eq_false_iff_ne.2 (by omega)
    go_enter Try.func5, Try.ntmps5
    go_wp2_with fail
    refine (bput_bad A B c d xs bs _ hy (.inr h4)).mono ?_
    rintro e w' ⟨rfl, rfl⟩
    rw [if_neg h0]
    go_wp2_with fail
    refine (size_calls _ _ (by omega) (by omega)).mono ?_
    rintro e w' ⟨rfl, rfl⟩
    rw [if_neg (show ¬(1 ≤ (bs.length : Int) ∧ (bs.length : Int) ≤ 4096) from by omega)]
    go_wp2_with fail
    refine (awake12 _).mono ?_
    rintro e w1 ⟨rfl, e1⟩
    have E1 := Lib.hid e1
    clear e1
    go_wp2_with fail
    go_ret
    exact ⟨rfl, E1.out⟩
  have h0' : ((bs.length : Int) == 0) = false := beq_eq_false_iff_ne.2 (by omega)
  have hX : (boxB bs).length = bs.length + 6 := boxB_length bs
  have hX' : (boxB bs).length ≤ 4102 := by omega
  have HX := Lib.hid hX
  clear hX
  rcases hmid with hmid | hmid
  all_goals
    go_enter Try.func5, Try.ntmps5
    go_wp2_with fail
    refine (bput_calls A B c d xs bs _ Ha.out Hb.out (by omega) (by omega) (by omega)).mono ?_
    rintro e w1 ⟨A1, c1, rfl, h1, e1⟩
    have HL : Hid ((xs ++ boxB bs).length = xs.length + (boxB bs).length) := List.length_append
    have hlen : (xs ++ boxB bs).length ≤ 4402 := by rw [HL.out]; omega
    generalize hM : xs ++ boxB bs = M at *
    have HM := Lib.hid hM
    have H1 := Lib.hid h1; have E1 := Lib.hid e1; clear h1 e1 hM
    go_wp2_with (at_builtin; refine cpyE w1 rfl (.tmp 74) (.tmp 75) rfl rfl A c xs rfl ?_ (Ha.out.ext E1.out) ?c2; intro A2 c2 w2 h2 e2; have HA := Lib.hid (H1.out.apart h2 (Nat.le_refl _)); have H2 := Lib.hid (h2.lower E1.out.size); have E2 := Lib.hid (E1.out.trans e2); have H12 := Lib.hid (H1.out.ext e2); clear h2 e2)
    case c2 => omega
    refine (rbox_calls B d bs _ (Hb.out.ext E2.out) (by omega)).mono ?_
    rintro e w3 ⟨A3, c3, rfl, h3, e3⟩
    have H3 := Lib.hid h3; have E3 := Lib.hid (E2.out.trans e3); have H13 := Lib.hid (H12.out.ext e3); have H23 := Lib.hid (H2.out.ext e3); clear h3 e3
    generalize boxB bs = X at *
    go_wp2_with (at_builtin; refine appB _ rfl (.tmp 76) (.tmp 78) rfl w.heap.size A2 c2 xs rfl A3 c3 X rfl ?_ H23.out H3.out.rd ?c3 E3.out.size; intro A4 c4 w4 h4 g4 k4; have H4 := Lib.hid h4; have G4 := Lib.hid g4; have E4 : Hid (Ext w w4) := E3.out.grown g4 (fun g hg => (H23.out.base_ g hg).1); clear h4 g4 k4)
    case c3 => omega
    rw [← HL.out]
    have H4' : Hid (OwnB w4 w.heap.size A4 c4 M) := by rw [← HM.out]; exact H4.out
    have H14 := Lib.hid (H13.out.keep G4.out HA.out)
    have hlx : ((bs.length : Int) + 6 == (M.length : Int) - (xs.length : Int)) = true := by
      rw [HL.out, HX.out]; simp; omega
    refine (same_calls A1 A4 c1 c4 M M _ H14.out.rd H4'.out.rd (by omega) (by omega)).mono ?_
    rintro e w5 ⟨rfl, n5, rfl⟩
    rw [decide_eq_true (rfl : M = M)]
    have E5 := Lib.hid (E4.out.drewN n5)
    go_wp2_with fail
    refine (size_calls _ _ (by omega) (by omega)).mono ?_
    rintro e w' ⟨rfl, rfl⟩
    rw [if_pos (show (1 ≤ (bs.length : Int) ∧ (bs.length : Int) ≤ 4096) from by omega)]
    go_wp2_with fail
    refine (awake12 _).mono ?_
    rintro e w6 ⟨rfl, e6⟩
    have E6 := Lib.hid (E5.out.trans e6)
    clear e6
    go_wp2_with fail
    go_ret
    exact ⟨rfl, E6.out⟩
end Go.Proofs.Ytjbejaieihchmaa
