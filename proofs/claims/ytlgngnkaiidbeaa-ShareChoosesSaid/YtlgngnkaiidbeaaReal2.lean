/- Contracts of real.Key, Less, Canon, of ref05's Class, Canon, Less; awake; the walks of RealClasses and RealOrder. -/
import Derived.Test.YtlgngnkaiidbeaaReal
import Derived.Test.YtlgngnkaiidbeaaRealC
import Derived.Test.YtlgngnkaiidbeaaRealHalf
import Derived.Test.YtlgngnkaiidbeaaPlainReal2
import Derived.Laws.BitsAll
set_option maxRecDepth 100000
set_option linter.unusedVariables false
set_option linter.unusedSimpArgs false
namespace Go.Proofs.Ytlgngnkaiidbeaa
open Go.RowKit

set_option maxHeartbeats 1000000 in
theorem key_calls (x : Nat) (w : World) (hx : x < 18446744073709551616) : Calls Try.prog 67 #[.int .u64 x] w fun e w' => e = .returned (.int .u64 (keyN x)) ∧ w = w' := by
  have hns : IntKind.u64.signed = false := rfl
  have HNot := Lib.hid (not64 x hx)
  have HK := Lib.hid (keyN_ranges hx)
  have HC := Lib.hid (cls_dom hx)
  go_enter Try.func67, Try.ntmps67
  go_wp2_with fail
  refine (class_calls x _ hx).mono ?_
  rintro e w' ⟨rfl, rfl⟩
  generalize hq : clsN x = q at *
  have Hq := Lib.hid hq
  clear hq
  rcases HC.out with rfl | rfl | rfl | rfl | rfl | rfl | rfl
  · go_wp2_with fail
    go_ret
    refine ⟨ret_int' ?_, rfl⟩
    have := HK.out; omega
  · go_wp2_with fail
    go_ret
    refine ⟨ret_int' (HNot.out.trans ?_), rfl⟩
    have := HK.out; omega
  · go_wp2_with fail
    go_ret
    refine ⟨ret_int' (HNot.out.trans ?_), rfl⟩
    have := HK.out; omega
  · go_wp2_with fail
    go_ret
    refine ⟨ret_int' (HNot.out.trans ?_), rfl⟩
    have := HK.out; omega
  · go_wp2_with fail
    go_ret
    refine ⟨ret_int' ((or_top x (by have := HK.out; omega)).trans ?_), rfl⟩
    have := HK.out; omega
  · go_wp2_with fail
    go_ret
    refine ⟨ret_int' ((or_top x (by have := HK.out; omega)).trans ?_), rfl⟩
    have := HK.out; omega
  · go_wp2_with fail
    go_ret
    refine ⟨ret_int' ((or_top x (by have := HK.out; omega)).trans ?_), rfl⟩
    have := HK.out; omega

set_option maxHeartbeats 4000000 in
theorem rless_calls (a b : Nat) (w : World) (ha : a < 18446744073709551616) (hb : b < 18446744073709551616) : Calls Try.prog 28 #[.int .u64 a, .int .u64 b] w fun e w' => e = .returned (.bool (lessN a b)) ∧ w = w' := by
  have HA := Lib.hid (cls_dom ha)
  have HB := Lib.hid (cls_dom hb)
  have HK : Hid (lessN a b = if clsN a = 0 ∨ clsN b = 0 then decide (clsN a ≠ 0 ∧ clsN b = 0) else if clsN a ≠ clsN b then decide (clsN a < clsN b) else if clsN a = 2 then decide (b < a) else decide (a < b)) := rfl
  go_enter Try.func28, Try.ntmps28
  go_wp2_with fail
  refine (rclass_calls a _ ha).mono ?_
  rintro e w' ⟨rfl, rfl⟩
  go_wp2_with fail
  refine (rclass_calls b _ hb).mono ?_
  rintro e w' ⟨rfl, rfl⟩
  generalize hp : clsN a = p at *
  generalize hq : clsN b = q at *
  clear hp hq
  have hp : 0 ≤ p ∧ p ≤ 6 := by have := HA.out; omega
  have hq : 0 ≤ q ∧ q ≤ 6 := by have := HB.out; omega
  by_cases h1 : p = 0
  · subst h1
    have HF : Hid (lessN a b = false) := by show _ = _; rw [HK.out, if_pos (.inl rfl)]; simp
    go_wp2_with fail
    go_ret
    rw [HF.out]
    exact ⟨rfl, rfl⟩
  have b1 : (p == 0) = false := by simpa using h1
  have b1' : (p != 0) = true := by simpa using h1
  by_cases h2 : q = 0
  · subst h2
    have HF : Hid (lessN a b = true) := by show _ = _; rw [HK.out, if_pos (.inr rfl)]; simp [h1]
    clear h1
    go_wp2_with fail
    go_ret
    rw [HF.out]
    exact ⟨rfl, rfl⟩
  have b2 : (q == 0) = false := by simpa using h2
  by_cases h3 : p = q
  · subst h3
    by_cases h4 : p = 2
    · subst h4
      have HF : Hid (lessN a b = decide (b < a)) := by show _ = _; rw [HK.out, if_neg (by omega), if_neg (by omega), if_pos rfl]
      clear h1 h2
      go_wp2_with fail
      go_ret
      rw [HF.out]
      refine ⟨ret_bool' ?_, rfl⟩
      first | rfl | (rw [Bool.eq_iff_iff]; simp)
    · have b4 : (p == 2) = false := by simpa using h4
      have HF : Hid (lessN a b = decide (a < b)) := by show _ = _; rw [HK.out, if_neg (by omega), if_neg (by omega), if_neg h4]
      clear h1 h2 h4
      go_wp2_with fail
      go_ret
      rw [HF.out]
      refine ⟨ret_bool' ?_, rfl⟩
      first | rfl | (rw [Bool.eq_iff_iff]; simp)
  · have b3 : (p != q) = true := by simpa using h3
    have HF : Hid (lessN a b = decide (p < q)) := by show _ = _; rw [HK.out, if_neg (by omega), if_pos h3]
    clear h1 h2 h3
    go_wp2_with fail
    go_ret
    rw [HF.out]
    exact ⟨rfl, rfl⟩

set_option maxHeartbeats 1000000 in
theorem awake05 (w : World) : Calls Try.prog 24 #[] w (RetV w (.bool true)) := by
  go_enter Try.func24, Try.ntmps24
  go_wp2_with fail
  refine (pick_half _).mono ?_
  rintro e w' ⟨rfl, rfl⟩
  go_wp2_with fail
  refine (class_calls 9218868437227405312 _ (by decide)).mono ?_
  rintro e w' ⟨rfl, rfl⟩
  rw [show clsN 9218868437227405312 = 6 from by decide +kernel]
  go_wp2_with fail
  refine (key_calls 9223372036854775808 _ (by decide)).mono ?_
  rintro e w' ⟨rfl, rfl⟩
  rw [show keyN 9223372036854775808 = 9223372036854775807 from by decide +kernel]
  go_wp2_with fail
  refine (key_calls 0 _ (by decide)).mono ?_
  rintro e w' ⟨rfl, rfl⟩
  rw [show keyN 0 = 9223372036854775808 from by decide +kernel]
  go_wp2_with fail
  go_ret
  exact ⟨rfl, Ext.refl _⟩

end Go.Proofs.Ytlgngnkaiidbeaa
