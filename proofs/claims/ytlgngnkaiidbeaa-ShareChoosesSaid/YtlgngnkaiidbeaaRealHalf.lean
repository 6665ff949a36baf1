/- Half a number, picked of three: what 'awake' asks of real.Pick. -/
import Derived.Test.YtlgngnkaiidbeaaReal
import Derived.Test.YtlgngnkaiidbeaaShelf
import Derived.Laws.BitsAll
import Derived.Laws.FloatArith
set_option maxRecDepth 100000
set_option linter.unusedVariables false
set_option linter.unusedSimpArgs false
namespace Go.Proofs.Ytlgngnkaiidbeaa
open Go.RowKit

set_option maxHeartbeats 1000000 in
theorem ldexp_half (w : World) : Calls Try.prog 102 #[.float .f64 4602678819172646912, .int .i64 53] w fun e w' => e = .returned (.float .f64 4841369599423283200) ∧ w = w' := by
  have hb := fun (x : Nat) w => run_bits x w
  have hf1 : ∀ w, (callFunc 68 #[.int .u64 4602678819172646912]).run Try.prog w = .ok (.value (.float .f64 4602678819172646912)) w := fun w => run_frombits 4602678819172646912 w
  have hf2 : ∀ w, (callFunc 68 #[.int .u64 4841369599423283200]).run Try.prog w = .ok (.value (.float .f64 4841369599423283200)) w := fun w => run_frombits 4841369599423283200 w
  have b1 : bits .andNot .u64 4602678819172646912 9223372036854775808 = 4602678819172646912 := by decide +kernel
  have b2 : bits .and .i64 1022 2047 = 1022 := by decide +kernel
  have b3 : bits .andNot .u64 4602678819172646912 9218868437227405312 = 0 := by decide +kernel
  have b4 : bits .or .u64 0 4841369599423283200 = 4841369599423283200 := by decide +kernel
  have o1 : (FloatKind.f64.format.order 4602678819172646912 0 == some .eq) = false := by decide +kernel
  have o2 : (FloatKind.f64.format.order 4602678819172646912 9218868437227405311 == some .gt) = false := by decide +kernel
  have o3 : (FloatKind.f64.format.order 4602678819172646912 4602678819172646912 != some .eq) = false := by decide +kernel
  have o4 : (FloatKind.f64.format.order 4602678819172646912 4503599627370496 == some .lt) = false := by decide +kernel
  have hm : ∀ w, (binOp .mul 109 (.float .f64 4607182418800017408) (.float .f64 4841369599423283200)).run Try.prog w = .ok (.float .f64 4841369599423283200) w := fun w => run_float_arith w .mul _ .f64 _ _ _ (by decide +kernel)
  go_enter Try.func102, Try.ntmps102
  go_wp2
  go_ret
  exact ⟨rfl, rfl⟩

theorem Ldexp_half (w : World) : Calls Try.prog 70 #[.float .f64 4602678819172646912, .int .i64 53] w fun e w' => e = .returned (.float .f64 4841369599423283200) ∧ w = w' := by
  go_enter Try.func70, Try.ntmps70
  go_wp2_with fail
  refine (ldexp_half _).mono ?_
  rintro e w' ⟨rfl, rfl⟩
  go_wp2_with fail
  go_ret
  exact ⟨rfl, rfl⟩

theorem pick_half (w : World) : Calls Try.prog 25 #[.int .u64 4602678819172646912, .int .i64 3] w fun e w' => e = .returned (.int .i64 1) ∧ w = w' := by
  have hf1 : ∀ w, (callFunc 68 #[.int .u64 4602678819172646912]).run Try.prog w = .ok (.value (.float .f64 4602678819172646912)) w := fun w => run_frombits 4602678819172646912 w
  have o1 : (FloatKind.f64.format.order 4602678819172646912 4607182418800017408 == some .gt || FloatKind.f64.format.order 4602678819172646912 4607182418800017408 == some .eq) = false := by decide +kernel
  have hcv : ∀ w, (convert 109 26 (.float .f64 4841369599423283200)).run Try.prog w = .ok (.int .u64 4503599627370496) w := fun w => run_convert_float_int w _ _ .f64 .u64 _ _ (by kernel_rfl) Try.underlying26 (by decide +kernel)
  have b1 : bits .or .u64 0 1 = 1 := by decide +kernel
  go_enter Try.func25, Try.ntmps25
  go_wp2_with fail
  refine (class_calls 4602678819172646912 _ (by decide)).mono ?_
  rintro e w' ⟨rfl, rfl⟩
  rw [show clsN 4602678819172646912 = 5 from by decide +kernel]
  go_wp2_with fail
  refine (Ldexp_half _).mono ?_
  rintro e w' ⟨rfl, rfl⟩
  go_wp2_with fail
  refine (Try.bits_Mul64 4503599627370496 3 (by decide) (by decide) _).mono ?_
  rintro e w' ⟨rfl, rfl⟩
  rw [show (4503599627370496 * 3 / 18446744073709551616 : Nat) = 0 from by decide +kernel, show (4503599627370496 * 3 % 18446744073709551616 : Nat) = 13510798882111488 from by decide +kernel]
  go_wp2_with fail
  go_ret
  exact ⟨rfl, rfl⟩
end Go.Proofs.Ytlgngnkaiidbeaa
