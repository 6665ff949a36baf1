/- RealPicks: the walk of the law. -/
import Derived.Test.YtlgngnkaiidbeaaPickB
import Derived.Test.YtlgngnkaiidbeaaRealHalf
import Derived.Test.YtlgngnkaiidbeaaReal2
set_option maxRecDepth 100000
set_option exponentiation.threshold 3000
set_option linter.unusedVariables false
set_option linter.unusedSimpArgs false
namespace Go.Proofs.Ytlgngnkaiidbeaa
open Go.RowKit

set_option maxHeartbeats 4000000 in
theorem realPicks_walk (a b : Nat) (n : Int) (w : World) (ha : a < 18446744073709551616) (hb : b < 18446744073709551616) (hn0 : -9223372036854775808 ≤ n) (hn1 : n < 9223372036854775808) : Calls Try.prog 5 #[.int .u64 a, .int .u64 b, .int .i64 n] w (RetV w (.bool true)) := by
  by_cases hbig : 1125899906842624 < n
  · go_enter Try.func5, Try.ntmps5
    go_wp2_with fail
    refine (awake05 _).mono ?_
    rintro e w' ⟨rfl, x1⟩
    have X := Lib.hid x1
    clear x1
    go_wp2_with fail
    go_ret
    exact ⟨rfl, X.out⟩
  have HPa : Hid (∀ W, Calls Try.prog 25 #[.int .u64 a, .int .i64 n] W fun e w' => e = .returned (.int .i64 (pickN a n)) ∧ W = w') := fun W => pick_calls a n W ha hn1 hn0
  have HPb : Hid (∀ W, Calls Try.prog 25 #[.int .u64 b, .int .i64 n] W fun e w' => e = .returned (.int .i64 (pickN b n)) ∧ W = w') := fun W => pick_calls b n W hb hn1 hn0
  have HQa : Hid (∀ W, Calls Try.prog 26 #[.int .u64 a, .int .i64 n] W fun e w' => e = .returned (.int .i64 (pickN a n)) ∧ W = w') := fun W => rpick_calls a n W ha (by omega) hn0
  have HQb : Hid (∀ W, Calls Try.prog 26 #[.int .u64 b, .int .i64 n] W fun e w' => e = .returned (.int .i64 (pickN b n)) ∧ W = w') := fun W => rpick_calls b n W hb (by omega) hn0
  have HCa : Hid (∀ W, Calls Try.prog 27 #[.int .u64 a] W fun e w' => e = .returned (.int .i64 (clsN a)) ∧ W = w') := fun W => rclass_calls a W ha
  have HCb : Hid (∀ W, Calls Try.prog 27 #[.int .u64 b] W fun e w' => e = .returned (.int .i64 (clsN b)) ∧ W = w') := fun W => rclass_calls b W hb
  have HRl : Hid (∀ W, Calls Try.prog 28 #[.int .u64 a, .int .u64 b] W fun e w' => e = .returned (.bool (lessN a b)) ∧ W = w') := fun W => rless_calls a b W ha hb
  have HM : Hid (clsN a ≠ 0 → clsN b ≠ 0 → lessN a b = true → pickN a n ≤ pickN b n) := fun h1 h2 h3 => pick_mono ha hb h1 h2 h3
  have HRa : Hid (1 ≤ n → 0 ≤ pickN a n ∧ pickN a n < n) := fun h => pick_rng ha h
  generalize pickN a n = pa at *
  generalize pickN b n = pb at *
  generalize lessN a b = L at *
  generalize clsN a = ca at *
  generalize clsN b = cb at *
  clear ha hb hn0 hn1
  have key : ∀ (s : Nat), (s = 0 ∧ n < 1) ∨ (s = 1 ∧ 1 ≤ n) → Calls Try.prog 5 #[.int .u64 a, .int .u64 b, .int .i64 n] w (RetV w (.bool true)) := by
    rintro s (⟨rfl, hn⟩ | ⟨rfl, hn⟩)
    case' inr => obtain ⟨r1, r2⟩ := HRa.out hn
    all_goals
      by_cases hca : ca = 0
      · subst hca
        go_enter Try.func5, Try.ntmps5
        go_wp2_with fail
        refine (HPa.out _).mono ?_
        rintro e w' ⟨rfl, rfl⟩
        go_wp2_with fail
        refine (HPb.out _).mono ?_
        rintro e w' ⟨rfl, rfl⟩
        go_wp2_with fail
        refine (HQa.out _).mono ?_
        rintro e w' ⟨rfl, rfl⟩
        go_wp2_with fail
        refine (HQb.out _).mono ?_
        rintro e w' ⟨rfl, rfl⟩
        go_wp2_with fail
        refine (HCa.out _).mono ?_
        rintro e w' ⟨rfl, rfl⟩
        go_wp2_with fail
        refine (awake05 _).mono ?_
        rintro e w' ⟨rfl, x1⟩
        have X := Lib.hid x1
        clear x1
        go_wp2_with fail
        go_ret
        exact ⟨rfl, X.out⟩
      by_cases hcb : cb = 0
      · subst hcb
        go_enter Try.func5, Try.ntmps5
        go_wp2_with fail
        refine (HPa.out _).mono ?_
        rintro e w' ⟨rfl, rfl⟩
        go_wp2_with fail
        refine (HPb.out _).mono ?_
        rintro e w' ⟨rfl, rfl⟩
        go_wp2_with fail
        refine (HQa.out _).mono ?_
        rintro e w' ⟨rfl, rfl⟩
        go_wp2_with fail
        refine (HQb.out _).mono ?_
        rintro e w' ⟨rfl, rfl⟩
        go_wp2_with fail
        refine (HCa.out _).mono ?_
        rintro e w' ⟨rfl, rfl⟩
        go_wp2_with fail
        refine (HCb.out _).mono ?_
        rintro e w' ⟨rfl, rfl⟩
        go_wp2_with fail
        refine (awake05 _).mono ?_
        rintro e w' ⟨rfl, x1⟩
        have X := Lib.hid x1
        clear x1
        go_wp2_with fail
        go_ret
        exact ⟨rfl, X.out⟩
      cases L
      case false =>
        go_enter Try.func5, Try.ntmps5
        go_wp2_with fail
        refine (HPa.out _).mono ?_
        rintro e w' ⟨rfl, rfl⟩
        go_wp2_with fail
        refine (HPb.out _).mono ?_
        rintro e w' ⟨rfl, rfl⟩
        go_wp2_with fail
        refine (HQa.out _).mono ?_
        rintro e w' ⟨rfl, rfl⟩
        go_wp2_with fail
        refine (HQb.out _).mono ?_
        rintro e w' ⟨rfl, rfl⟩
        go_wp2_with fail
        refine (HCa.out _).mono ?_
        rintro e w' ⟨rfl, rfl⟩
        go_wp2_with fail
        refine (HCb.out _).mono ?_
        rintro e w' ⟨rfl, rfl⟩
        go_wp2_with fail
        refine (HRl.out _).mono ?_
        rintro e w' ⟨rfl, rfl⟩
        go_wp2_with fail
        refine (awake05 _).mono ?_
        rintro e w' ⟨rfl, x1⟩
        have X := Lib.hid x1
        clear x1
        go_wp2_with fail
        go_ret
        exact ⟨rfl, X.out⟩
      case true =>
        have hle := HM.out hca hcb rfl
        go_enter Try.func5, Try.ntmps5
        go_wp2_with fail
        refine (HPa.out _).mono ?_
        rintro e w' ⟨rfl, rfl⟩
        go_wp2_with fail
        refine (HPb.out _).mono ?_
        rintro e w' ⟨rfl, rfl⟩
        go_wp2_with fail
        refine (HQa.out _).mono ?_
        rintro e w' ⟨rfl, rfl⟩
        go_wp2_with fail
        refine (HQb.out _).mono ?_
        rintro e w' ⟨rfl, rfl⟩
        go_wp2_with fail
        refine (HCa.out _).mono ?_
        rintro e w' ⟨rfl, rfl⟩
        go_wp2_with fail
        refine (HCb.out _).mono ?_
        rintro e w' ⟨rfl, rfl⟩
        go_wp2_with fail
        refine (HRl.out _).mono ?_
        rintro e w' ⟨rfl, rfl⟩
        go_wp2_with fail
        refine (awake05 _).mono ?_
        rintro e w' ⟨rfl, x1⟩
        have X := Lib.hid x1
        clear x1
        go_wp2_with fail
        go_ret
        exact ⟨rfl, X.out⟩
  by_cases hn : n < 1
  · exact key 0 (.inl ⟨rfl, hn⟩)
  · exact key 1 (.inr ⟨rfl, by omega⟩)
end Go.Proofs.Ytlgngnkaiidbeaa
