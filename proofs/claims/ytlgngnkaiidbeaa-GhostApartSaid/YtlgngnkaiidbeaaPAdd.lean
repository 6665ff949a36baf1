/- price.Over, price.Add (lines of PriceB, for seats without price.Due). -/
import Derived.Test.YtlgngnkaiidbeaaMem
set_option maxRecDepth 100000
set_option linter.unusedVariables false
set_option linter.unusedSimpArgs false
namespace Go.Proofs.Ytlgngnkaiidbeaa
open Go.RowKit

theorem ret_boolP {a b : Bool} (h : a = b) : Ending.returned (.bool a) = .returned (.bool b) := by rw [h]
def addN (a b : Nat) : Nat := if 18446744073709551616 ≤ a + b then 18446744073709551615 else a + b
theorem over_calls (a b : Nat) (w : World) (ha : a < 18446744073709551616) (hb : b < 18446744073709551616) : Calls Try.prog 133 #[.int .u64 a, .int .u64 b] w fun e w' => e = .returned (.bool (decide (18446744073709551616 ≤ a + b))) ∧ w = w' := by
  have HD : Hid (decide (IntKind.u64.wrap ((a : Int) + b) < a) = decide (18446744073709551616 ≤ a + b)) := by
    show _ = _
    rw [IntKind.wrap_u64, Bool.eq_iff_iff]; simp only [decide_eq_true_eq]; omega
  go_enter Try.func133, Try.ntmps133
  go_wp2_with fail
  go_ret
  exact ⟨ret_boolP HD.out, rfl⟩
theorem add_calls (a b : Nat) (w : World) (ha : a < 18446744073709551616) (hb : b < 18446744073709551616) : Calls Try.prog 105 #[.int .u64 a, .int .u64 b] w fun e w' => e = .returned (.int .u64 (addN a b)) ∧ w = w' := by
  by_cases h : 18446744073709551616 ≤ a + b
  · have HA : Hid (addN a b = 18446744073709551615) := if_pos h
    go_enter Try.func105, Try.ntmps105
    go_wp2_with fail
    refine (over_calls a b _ ha hb).mono ?_
    rintro e w' ⟨rfl, rfl⟩
    rw [decide_eq_true h]
    go_wp2_with fail
    go_ret
    rw [HA.out]
    exact ⟨rfl, rfl⟩
  · have HA : Hid (addN a b = a + b) := if_neg h
    have hw : IntKind.u64.wrap ((a : Int) + b) = (a : Int) + b := IntWalk.u64_in _ (by omega)
    go_enter Try.func105, Try.ntmps105
    go_wp2_with fail
    refine (over_calls a b _ ha hb).mono ?_
    rintro e w' ⟨rfl, rfl⟩
    rw [decide_eq_false h]
    go_wp2_with fail
    go_ret
    rw [HA.out]
    exact ⟨rfl, rfl⟩
theorem addN_lt (a b : Nat) : addN a b < 18446744073709551616 := by unfold addN; split <;> omega
end Go.Proofs.Ytlgngnkaiidbeaa
