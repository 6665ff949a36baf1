/- Plain facts on floating numbers by their bits: nothing of the program. -/
import Ieee.Arith
set_option linter.unusedVariables false
set_option linter.unusedSimpArgs false
namespace Go.Proofs.Ytlgngnkaiidbeaa

/-- the class of a number with these bits -/
def clsN (x : Nat) : Int :=
  if x / 4503599627370496 % 2048 = 2047 then (if x % 4503599627370496 ≠ 0 then 0 else if x / 9223372036854775808 = 1 then 1 else 6)
  else if x / 4503599627370496 % 2048 = 0 ∧ x % 4503599627370496 = 0 then (if x / 9223372036854775808 = 1 then 3 else 4)
  else if x / 9223372036854775808 = 1 then 2 else 5

theorem dbl_sign : Ieee.double.signWeight = 9223372036854775808 := by decide
theorem dbl_bin : Ieee.double.binade = 4503599627370496 := by decide
theorem dbl_inf : Ieee.double.infRung = 9218868437227405312 := by decide
theorem dbl_least : Ieee.double.leastPlace = -1074 := by decide

theorem rd_sub {x : Nat} (h : x % 9223372036854775808 < 4503599627370496) :
    Ieee.double.read x = .number (x / 9223372036854775808 % 2 == 1) (x % 9223372036854775808) (-1074) := by
  simp only [Ieee.Format.read, dbl_sign, dbl_bin, dbl_least, if_pos h]
theorem rd_norm {x : Nat} (h : 4503599627370496 ≤ x % 9223372036854775808) (h2 : x % 9223372036854775808 < 9218868437227405312) :
    Ieee.double.read x = .number (x / 9223372036854775808 % 2 == 1) (4503599627370496 + x % 9223372036854775808 % 4503599627370496) (-1074 + ((x % 9223372036854775808 / 4503599627370496 - 1 : Nat) : Int)) := by
  simp only [Ieee.Format.read, dbl_sign, dbl_bin, dbl_least, dbl_inf]
  rw [if_neg (by omega), if_pos h2]
theorem rd_inf {x : Nat} (h : x % 9223372036854775808 = 9218868437227405312) :
    Ieee.double.read x = .infinity (x / 9223372036854775808 % 2 == 1) := by
  simp only [Ieee.Format.read, dbl_sign, dbl_bin, dbl_inf]
  rw [if_neg (by omega), if_neg (by omega), if_pos h]
theorem rd_nan {x : Nat} (h : 9218868437227405312 < x % 9223372036854775808) :
    Ieee.double.read x = .nan (x / 9223372036854775808 % 2 == 1) (x % 9223372036854775808 - 9218868437227405312) := by
  simp only [Ieee.Format.read, dbl_sign, dbl_bin, dbl_inf]
  rw [if_neg (by omega), if_neg (by omega), if_neg (by omega)]

/-- a number that is no NaN and no infinity: sign, magnitude, place -/
theorem rd_fin {x : Nat} (h : x % 9223372036854775808 < 9218868437227405312) :
    ∃ m p : Nat, Ieee.double.read x = .number (x / 9223372036854775808 % 2 == 1) m (-1074 + (p : Int)) ∧ (m = 0 ↔ x % 9223372036854775808 = 0) ∧ m ≤ 9007199254740991 ∧ p ≤ 2045 := by
  by_cases hs : x % 9223372036854775808 < 4503599627370496
  · exact ⟨_, 0, by rw [rd_sub hs]; rfl, Iff.rfl, by omega, by omega⟩
  · exact ⟨_, _, rd_norm (by omega) h, by omega, by omega, by omega⟩

theorem ord_self_fin {x : Nat} (h : x % 9223372036854775808 ≤ 9218868437227405312) : Ieee.double.order x x = some .eq := by
  unfold Ieee.Format.order
  by_cases h2 : x % 9223372036854775808 < 9218868437227405312
  · obtain ⟨m, p, hr, _⟩ := rd_fin h2
    rw [hr]
    simp [Ieee.Datum.order]
  · rw [rd_inf (by omega)]
    simp [Ieee.Datum.order]
theorem ord_self_nan {x : Nat} (h : 9218868437227405312 < x % 9223372036854775808) : Ieee.double.order x x = none := by
  unfold Ieee.Format.order
  rw [rd_nan h]
  rfl

theorem rd_zero : Ieee.double.read 0 = .number false 0 (-1074) := by rw [rd_sub (by decide)]; rfl
theorem rd_max : Ieee.double.read 9218868437227405311 = .number false 9007199254740991 971 := by rw [rd_norm (by decide) (by decide)]; rfl

theorem shl_pos {m k : Nat} (h : m ≠ 0) : 0 < m <<< k := by
  rw [Nat.shiftLeft_eq]; exact Nat.mul_pos (by omega) (Nat.pow_pos (by omega))

/-- against zero -/
theorem ord_zero_fin {x : Nat} (h : x % 9223372036854775808 < 9218868437227405312) :
    Ieee.double.order x 0 = some (if x % 9223372036854775808 = 0 then .eq else if x / 9223372036854775808 % 2 = 1 then .lt else .gt) := by
  unfold Ieee.Format.order
  obtain ⟨m, p, hr, hm, _, _⟩ := rd_fin h
  rw [hr, rd_zero]
  simp only [Ieee.Datum.order, Ieee.signed]
  congr 1
  rw [show min (-1074 + (p : Int)) (-1074) = -1074 from by omega]
  simp only [Nat.zero_shiftLeft, Bool.false_eq_true, if_false]
  by_cases h0 : x % 9223372036854775808 = 0
  · rw [if_pos h0, hm.2 h0]
    simp
  · rw [if_neg h0]
    have hp := shl_pos (m := m) (k := (-1074 + (p : Int) - -1074).toNat) (fun e => h0 (hm.1 e))
    generalize m <<< (-1074 + (p : Int) - -1074).toNat = q at *
    by_cases hs : x / 9223372036854775808 % 2 = 1
    · rw [if_pos hs, if_pos (by simpa using hs)]
      exact Int.compare_eq_lt.2 (by omega)
    · rw [if_neg hs, if_neg (by simpa using hs)]
      exact Int.compare_eq_gt.2 (by omega)
theorem ord_zero_inf {x : Nat} (h : x % 9223372036854775808 = 9218868437227405312) :
    Ieee.double.order x 0 = some (if x / 9223372036854775808 % 2 = 1 then .lt else .gt) := by
  unfold Ieee.Format.order
  rw [rd_inf h, rd_zero]
  simp only [Ieee.Datum.order]
  congr 1
  by_cases hs : x / 9223372036854775808 % 2 = 1
  · rw [if_pos hs, if_pos (by simpa using hs)]
  · rw [if_neg hs, if_neg (by simpa using hs)]

/-- against the greatest number: only plus infinity is above -/
theorem ord_max_fin {x : Nat} (h : x % 9223372036854775808 < 9218868437227405312) : (Ieee.double.order x 9218868437227405311 == some .gt) = false := by
  unfold Ieee.Format.order
  obtain ⟨m, p, hr, _, hm, hp⟩ := rd_fin h
  rw [hr, rd_max]
  simp only [Ieee.Datum.order, Ieee.signed]
  rw [show min (-1074 + (p : Int)) 971 = -1074 + (p : Int) from by omega]
  rw [show (-1074 + (p : Int) - (-1074 + (p : Int))).toNat = 0 from by omega, Nat.shiftLeft_zero]
  have hle : m ≤ 9007199254740991 <<< (971 - (-1074 + (p : Int))).toNat := by
    rw [Nat.shiftLeft_eq]
    exact Nat.le_trans hm (Nat.le_mul_of_pos_right _ (Nat.pow_pos (by omega)))
  generalize 9007199254740991 <<< (971 - (-1074 + (p : Int))).toNat = q at *
  simp only [Bool.false_eq_true, if_false]
  have : compare (if (x / 9223372036854775808 % 2 == 1) = true then -(m : Int) else (m : Int)) (q : Int) ≠ .gt := by
    intro hc
    have := Int.compare_eq_gt.1 hc
    split at this <;> omega
  simpa using this
theorem ord_max_inf {x : Nat} (h : x % 9223372036854775808 = 9218868437227405312) :
    (Ieee.double.order x 9218868437227405311 == some .gt) = !(x / 9223372036854775808 % 2 == 1) := by
  unfold Ieee.Format.order
  rw [rd_inf h, rd_max]
  simp only [Ieee.Datum.order]
  cases (x / 9223372036854775808 % 2 == 1) <;> rfl

theorem top_xor {y : Nat} (h : y < 2 ^ 63) : 2 ^ 63 + y = 2 ^ 63 ^^^ y := by
  have ho := Nat.two_pow_add_eq_or_of_lt (i := 63) (b := y) h 1
  rw [Nat.mul_one] at ho
  rw [ho]
  apply Nat.eq_of_testBit_eq
  intro i
  rw [Nat.testBit_or, Nat.testBit_xor, Nat.testBit_two_pow]
  by_cases hi : 63 = i
  · subst hi
    have : y.testBit 63 = false := Nat.testBit_lt_two_pow h
    rw [this]; simp
  · simp [hi]
theorem flip_top (x : Nat) (h : x < 18446744073709551616) : x ^^^ 9223372036854775808 = if x < 9223372036854775808 then x + 9223372036854775808 else x - 9223372036854775808 := by
  by_cases hx : x < 9223372036854775808
  · rw [if_pos hx, Nat.xor_comm]
    have := top_xor (y := x) hx
    rw [Nat.add_comm x]
    exact this.symm
  · rw [if_neg hx]
    obtain ⟨y, hy⟩ : ∃ y, x = 9223372036854775808 + y := ⟨x - 9223372036854775808, by omega⟩
    have h2 : y < 2 ^ 63 := by omega
    have h3 := top_xor h2
    have h4 : x = 9223372036854775808 ^^^ y := hy.trans h3
    rw [h4, Nat.xor_comm 9223372036854775808 y, Nat.xor_assoc, Nat.xor_self, Nat.xor_zero]
    rw [← Nat.xor_comm 9223372036854775808 y, ← h4]
    omega
end Go.Proofs.Ytlgngnkaiidbeaa
