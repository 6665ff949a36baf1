/- Plain facts on the order of floating numbers by their bits. -/
import Derived.Test.YtlgngnkaiidbeaaPlainReal
set_option linter.unusedVariables false
set_option linter.unusedSimpArgs false
namespace Go.Proofs.Ytlgngnkaiidbeaa

theorem cls_ranges {x : Nat} (hx : x < 18446744073709551616) :
    (x = 0 ∧ clsN x = 4) ∨ (0 < x ∧ x < 9218868437227405312 ∧ clsN x = 5) ∨ (x = 9218868437227405312 ∧ clsN x = 6) ∨ (9218868437227405312 < x ∧ x < 9223372036854775808 ∧ clsN x = 0) ∨
    (x = 9223372036854775808 ∧ clsN x = 3) ∨ (9223372036854775808 < x ∧ x < 18442240474082181120 ∧ clsN x = 2) ∨ (x = 18442240474082181120 ∧ clsN x = 1) ∨ (18442240474082181120 < x ∧ clsN x = 0) := by
  unfold clsN
  by_cases h1 : x / 4503599627370496 % 2048 = 2047
  · rw [if_pos h1]
    by_cases h2 : x % 4503599627370496 ≠ 0
    · rw [if_pos h2]; omega
    · rw [if_neg h2]
      by_cases h3 : x / 9223372036854775808 = 1
      · rw [if_pos h3]; omega
      · rw [if_neg h3]; omega
  · rw [if_neg h1]
    by_cases h2 : x / 4503599627370496 % 2048 = 0 ∧ x % 4503599627370496 = 0
    · rw [if_pos h2]
      by_cases h3 : x / 9223372036854775808 = 1
      · rw [if_pos h3]; omega
      · rw [if_neg h3]; omega
    · rw [if_neg h2]
      by_cases h3 : x / 9223372036854775808 = 1
      · rw [if_pos h3]; omega
      · rw [if_neg h3]; omega

def keyN (x : Nat) : Nat := if clsN x = 0 then 18446744073709551615 else if clsN x = 1 ∨ clsN x = 2 ∨ clsN x = 3 then 18446744073709551615 - x else x + 9223372036854775808
def canonN (x : Nat) : Nat := if clsN x = 0 then 9221120237041090560 else if clsN x = 3 then 0 else x
def lessN (a b : Nat) : Bool :=
  if clsN a = 0 ∨ clsN b = 0 then decide (clsN a ≠ 0 ∧ clsN b = 0) else if clsN a ≠ clsN b then decide (clsN a < clsN b) else if clsN a = 2 then decide (b < a) else decide (a < b)

theorem keyN_ranges {x : Nat} (hx : x < 18446744073709551616) :
    (x < 9218868437227405313 ∧ keyN x = x + 9223372036854775808 ∧ 4 ≤ clsN x ∧ clsN x ≤ 6) ∨ (clsN x = 0 ∧ keyN x = 18446744073709551615 ∧ (9218868437227405312 < x ∧ x < 9223372036854775808 ∨ 18442240474082181120 < x)) ∨
    (9223372036854775808 ≤ x ∧ x ≤ 18442240474082181120 ∧ keyN x = 18446744073709551615 - x ∧ 1 ≤ clsN x ∧ clsN x ≤ 3) := by
  unfold keyN
  rcases cls_ranges hx with ⟨h, hc⟩ | ⟨h, h', hc⟩ | ⟨h, hc⟩ | ⟨h, h', hc⟩ | ⟨h, hc⟩ | ⟨h, h', hc⟩ | ⟨h, hc⟩ | ⟨h, hc⟩ <;> rw [hc] <;> simp <;> omega
theorem keyN_lt {x : Nat} (hx : x < 18446744073709551616) : keyN x < 18446744073709551616 := by
  rcases keyN_ranges hx with ⟨_, h, _⟩ | ⟨_, h, _⟩ | ⟨_, _, h, _⟩ <;> omega
theorem less_key {a b : Nat} (ha : a < 18446744073709551616) (hb : b < 18446744073709551616) : lessN a b = decide (keyN a < keyN b) := by
  unfold lessN keyN
  rcases cls_ranges ha with ⟨h, hc⟩ | ⟨h, h', hc⟩ | ⟨h, hc⟩ | ⟨h, h', hc⟩ | ⟨h, hc⟩ | ⟨h, h', hc⟩ | ⟨h, hc⟩ | ⟨h, hc⟩ <;>
  rcases cls_ranges hb with ⟨k, hd⟩ | ⟨k, k', hd⟩ | ⟨k, hd⟩ | ⟨k, k', hd⟩ | ⟨k, hd⟩ | ⟨k, k', hd⟩ | ⟨k, hd⟩ | ⟨k, hd⟩ <;>
  rw [hc, hd] <;> simp <;> omega
theorem key_inj {a b : Nat} (ha : a < 18446744073709551616) (hb : b < 18446744073709551616) : keyN a = keyN b ↔ a = b ∨ clsN a = 0 ∧ clsN b = 0 := by
  unfold keyN
  rcases cls_ranges ha with ⟨h, hc⟩ | ⟨h, h', hc⟩ | ⟨h, hc⟩ | ⟨h, h', hc⟩ | ⟨h, hc⟩ | ⟨h, h', hc⟩ | ⟨h, hc⟩ | ⟨h, hc⟩ <;>
  rcases cls_ranges hb with ⟨k, hd⟩ | ⟨k, k', hd⟩ | ⟨k, hd⟩ | ⟨k, k', hd⟩ | ⟨k, hd⟩ | ⟨k, k', hd⟩ | ⟨k, hd⟩ | ⟨k, hd⟩ <;>
  rw [hc, hd] <;> simp <;> omega
end Go.Proofs.Ytlgngnkaiidbeaa
