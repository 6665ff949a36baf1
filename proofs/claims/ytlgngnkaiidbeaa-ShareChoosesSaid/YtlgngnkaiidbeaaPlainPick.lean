/- Plain facts on floating numbers: their order, times one, cut to whole; which of n a fraction picks. -/
import Derived.Test.YtlgngnkaiidbeaaPlainReal
import Derived.Laws.FloatArith
set_option maxRecDepth 100000
set_option linter.unusedVariables false
set_option linter.unusedSimpArgs false
namespace Go.Proofs.Ytlgngnkaiidbeaa

/-- a positive number: its magnitude, its place -/
theorem rd_pos {x : Nat} (hx : x < 9218868437227405312) : ∃ m a : Nat, Ieee.double.read x = .number false m (-1074 + (a : Int)) ∧ x = a * 4503599627370496 + m ∧ m < 9007199254740992 ∧ (a = 0 ∨ 4503599627370496 ≤ m) ∧ a ≤ 2045 := by
  have e1 : x / 9223372036854775808 = 0 := by omega
  have e2 : x % 9223372036854775808 = x := by omega
  by_cases hs : x < 4503599627370496
  · refine ⟨x, 0, ?_, by omega, by omega, .inl rfl, by omega⟩
    rw [rd_sub (by omega), e1, e2]; rfl
  · refine ⟨4503599627370496 + x % 4503599627370496, x / 4503599627370496 - 1, ?_, by omega, by omega, .inr (by omega), by omega⟩
    rw [rd_norm (by omega) (by omega), e1, e2]; rfl
theorem cmp_nat {a b c d : Nat} (h1 : a < b ↔ c < d) (h2 : a = b ↔ c = d) : compare a b = compare c d := by
  rcases Nat.lt_trichotomy a b with h | h | h
  · rw [Nat.compare_eq_lt.2 h, Nat.compare_eq_lt.2 (h1.1 h)]
  · rw [Nat.compare_eq_eq.2 h, Nat.compare_eq_eq.2 (h2.1 h)]
  · have h3 : d < c := by
      rcases Nat.lt_trichotomy c d with h4 | h4 | h4
      · have := h1.2 h4; omega
      · have := h2.2 h4; omega
      · exact h4
    rw [Nat.compare_eq_gt.2 h, Nat.compare_eq_gt.2 h3]
theorem cmp_int (a b : Nat) : compare (a : Int) (b : Int) = compare a b := by
  rcases Nat.lt_trichotomy a b with h | h | h
  · rw [Nat.compare_eq_lt.2 h]; exact Int.compare_eq_lt.2 (by omega)
  · subst h; rw [Nat.compare_eq_eq.2 rfl]; exact Int.compare_eq_eq.2 rfl
  · rw [Nat.compare_eq_gt.2 h]; exact Int.compare_eq_gt.2 (by omega)
/-- positive numbers stand as their bits do -/
theorem ord_pos {x y : Nat} (hx : x < 9218868437227405312) (hy : y < 9218868437227405312) : Ieee.double.order x y = some (compare x y) := by
  obtain ⟨m, a, h1, h2, h3, h4, _⟩ := rd_pos hx
  obtain ⟨n, b, k1, k2, k3, k4, _⟩ := rd_pos hy
  unfold Ieee.Format.order
  rw [h1, k1]
  simp only [Ieee.Datum.order, Ieee.signed, Bool.false_eq_true, if_false, cmp_int]
  congr 1
  rcases Nat.lt_trichotomy a b with h | h | h
  · have e1 : (-1074 + (a : Int) - min (-1074 + (a : Int)) (-1074 + (b : Int))).toNat = 0 := by omega
    have e2 : (-1074 + (b : Int) - min (-1074 + (a : Int)) (-1074 + (b : Int))).toNat = b - a := by omega
    rw [e1, e2, Nat.shiftLeft_zero, Nat.shiftLeft_eq]
    have hb : 4503599627370496 ≤ n := by omega
    have h2p : 2 ≤ 2 ^ (b - a) := by
      have : 2 ^ 1 ≤ 2 ^ (b - a) := Nat.pow_le_pow_right (by omega) (by omega)
      simpa using this
    have hn : 9007199254740992 ≤ n * 2 ^ (b - a) := Nat.le_trans (by omega) (Nat.mul_le_mul hb h2p)
    refine cmp_nat ⟨fun _ => by omega, fun _ => by omega⟩ ⟨fun _ => by omega, fun e => by omega⟩
  · subst h
    have e1 : (-1074 + (a : Int) - min (-1074 + (a : Int)) (-1074 + (a : Int))).toNat = 0 := by omega
    rw [e1, Nat.shiftLeft_zero, Nat.shiftLeft_zero]
    exact cmp_nat ⟨fun _ => by omega, fun _ => by omega⟩ ⟨fun _ => by omega, fun _ => by omega⟩
  · have e1 : (-1074 + (a : Int) - min (-1074 + (a : Int)) (-1074 + (b : Int))).toNat = a - b := by omega
    have e2 : (-1074 + (b : Int) - min (-1074 + (a : Int)) (-1074 + (b : Int))).toNat = 0 := by omega
    rw [e1, e2, Nat.shiftLeft_zero, Nat.shiftLeft_eq]
    have hb : 4503599627370496 ≤ m := by omega
    have h2p : 2 ≤ 2 ^ (a - b) := by
      have : 2 ^ 1 ≤ 2 ^ (a - b) := Nat.pow_le_pow_right (by omega) (by omega)
      simpa using this
    have hn : 9007199254740992 ≤ m * 2 ^ (a - b) := Nat.le_trans (by omega) (Nat.mul_le_mul hb h2p)
    refine cmp_nat ⟨fun _ => by omega, fun _ => by omega⟩ ⟨fun _ => by omega, fun _ => by omega⟩

theorem cut_exact (M j : Nat) (hj : j ≤ (M * 2 ^ j).log2 + 2) : Ieee.Toward.even.cut false (M * 2 ^ j) j = M := by
  have hp : 0 < 2 ^ j := Nat.pow_pos (by omega)
  have hg : 1 <<< min j ((M * 2 ^ j).log2 + 2) = 2 ^ j := by rw [Nat.min_eq_left hj, Nat.shiftLeft_eq, Nat.one_mul]
  have hd : M * 2 ^ j / 2 ^ j = M := Nat.mul_div_cancel _ hp
  have hm : M * 2 ^ j % 2 ^ j = 0 := Nat.mul_mod_left _ _
  unfold Ieee.Toward.cut
  simp only [hg, hd, hm]
  generalize 2 ^ j = P at *
  have h1 : (P == 2 * 0) = false := by rw [beq_eq_false_iff_ne]; omega
  have h2 : decide (P < 2 * 0) = false := decide_eq_false (by omega)
  simp [h1, h2]
/-- a number is written as it is, whatever zeros stand behind its magnitude -/
theorem write_shift (M j : Nat) (a : Nat) (h1 : 4503599627370496 ≤ M) (h2 : M < 9007199254740992) (ha : a ≤ 2045) :
    Ieee.double.write (.number false (M * 2 ^ j) (-1074 + (a : Int) - (j : Int))) = a * 4503599627370496 + M := by
  have hp : 0 < 2 ^ j := Nat.pow_pos (by omega)
  have hm : M * 2 ^ j ≠ 0 := Nat.mul_ne_zero (by omega) (by omega)
  have hl : (M * 2 ^ j).log2 = 52 + j := by
    rw [Nat.log2_eq_iff hm]
    constructor
    · rw [Nat.pow_add]; exact Nat.mul_le_mul_right _ (by simpa using h1)
    · rw [show 52 + j + 1 = 53 + j by omega, Nat.pow_add]; exact Nat.mul_lt_mul_of_pos_right (by simpa using h2) hp
  have hc := cut_exact M j (by omega)
  generalize M * 2 ^ j = X at *
  unfold Ieee.Format.write Ieee.Format.nearest
  simp only [if_neg hm]
  have hf : (Ieee.double.fractionBits : Int) = 52 := rfl
  have hlast : max (-1074 + (a : Int) - (j : Int) + (X.log2 : Int) - (Ieee.double.fractionBits : Int)) Ieee.double.leastPlace = -1074 + (a : Int) := by
    rw [dbl_least, hf, hl]; omega
  simp only [hlast]
  have e1 : (-1074 + (a : Int) - (j : Int) - (-1074 + (a : Int))).toNat = 0 := by omega
  have e2 : (-1074 + (a : Int) - (-1074 + (a : Int) - (j : Int))).toNat = j := by omega
  have e3 : (-1074 + (a : Int) - -1074).toNat = a := by omega
  have e4 : X <<< 0 = X := Nat.shiftLeft_zero
  simp only [e1, e2, e4, hc, dbl_least, dbl_bin, dbl_inf, e3]
  have hmin : min (a * 4503599627370496 + M) 9218868437227405312 = a * 4503599627370496 + M := Nat.min_eq_left (by omega)
  rw [hmin]
  simp only [Ieee.Format.word, Bool.false_eq_true, if_false]
theorem rd_one : Ieee.double.read 4607182418800017408 = .number false 4503599627370496 (-52) := by rw [rd_norm (by decide) (by decide)]; rfl
theorem rd_two52 : Ieee.double.read 4841369599423283200 = .number false 4503599627370496 0 := by rw [rd_norm (by decide) (by decide)]; rfl
/-- one times a normal number -/
theorem mul_one' {y : Nat} (h1 : 4503599627370496 ≤ y) (h2 : y < 9218868437227405312) : Ieee.double.mul 4607182418800017408 y = some y := by
  obtain ⟨m, a, k1, k2, k3, k4, k5⟩ := rd_pos h2
  have hm : 4503599627370496 ≤ m := by omega
  unfold Ieee.Format.mul
  rw [rd_one, k1]
  simp only [Ieee.Datum.product, Option.map_some]
  have := write_shift m 52 a hm k3 k5
  rw [show (2 : Nat) ^ 52 = 4503599627370496 by decide] at this
  rw [show (-52 : Int) + (-1074 + (a : Int)) = -1074 + (a : Int) - ((52 : Nat) : Int) by omega, Nat.mul_comm]
  simp only [Bool.xor_self]
  rw [this, ← k2]
/-- a small number, made normal -/
theorem mul_small {x : Nat} (h0 : 0 < x) (h1 : x < 4503599627370496) : Ieee.double.mul x 4841369599423283200 = some (x.log2 * 4503599627370496 + x * 2 ^ (52 - x.log2)) ∧ x.log2 ≤ 51 ∧ 4503599627370496 ≤ x * 2 ^ (52 - x.log2) ∧ x * 2 ^ (52 - x.log2) < 9007199254740992 := by
  have hl := (Nat.log2_eq_iff (by omega : x ≠ 0)).1 rfl
  have hl51 : x.log2 ≤ 51 := by
    have h : 2 ^ x.log2 < 2 ^ 52 := Nat.lt_of_le_of_lt hl.1 (by simpa using h1)
    have := (Nat.pow_lt_pow_iff_right (by omega : 1 < 2)).1 h
    omega
  have hp : 0 < 2 ^ (52 - x.log2) := Nat.pow_pos (by omega)
  have b1 : 4503599627370496 ≤ x * 2 ^ (52 - x.log2) := by
    have h := Nat.mul_le_mul_right (2 ^ (52 - x.log2)) hl.1
    rw [← Nat.pow_add, show x.log2 + (52 - x.log2) = 52 by omega] at h
    simpa using h
  have b2 : x * 2 ^ (52 - x.log2) < 9007199254740992 := by
    have h := Nat.mul_lt_mul_of_pos_right hl.2 hp
    rw [← Nat.pow_add, show x.log2 + 1 + (52 - x.log2) = 53 by omega] at h
    simpa using h
  refine ⟨?_, hl51, b1, b2⟩
  obtain ⟨m, a, k1, k2, k3, k4, k5⟩ := rd_pos (show x < 9218868437227405312 by omega)
  have ha : a = 0 := by omega
  subst ha
  have hmx : m = x := by omega
  subst hmx
  unfold Ieee.Format.mul
  rw [k1, rd_two52]
  simp only [Ieee.Datum.product, Option.map_some, Bool.xor_self]
  have := write_shift (m * 2 ^ (52 - m.log2)) m.log2 m.log2 b1 b2 (by omega)
  rw [Nat.mul_assoc, ← Nat.pow_add, show 52 - m.log2 + m.log2 = 52 by omega] at this
  rw [show (-1074 : Int) + ((0 : Nat) : Int) + 0 = -1074 + (m.log2 : Int) - (m.log2 : Int) by omega]
  rw [show (2 : Nat) ^ 52 = 4503599627370496 by decide] at this
  rw [this]
/-- cut to a whole number -/
theorem to_int {y : Nat} (hy : y < 9218868437227405312) {m a : Nat} (h : Ieee.double.read y = .number false m (-1074 + (a : Int))) (ha : a ≤ 1074) : (Ieee.double.read y).toInt .zero = some ((m / 2 ^ (1074 - a) : Nat) : Int) := by
  rw [h]
  unfold Ieee.Datum.toInt Ieee.Datum.integral
  have e1 : (-1074 + (a : Int)).toNat = 0 := by omega
  have e2 : (-(-1074 + (a : Int))).toNat = 1074 - a := by omega
  simp only [e1, e2, Nat.shiftLeft_zero, Ieee.Toward.cut, Ieee.signed, Bool.false_eq_true, if_false, Bool.toNat_false, Nat.add_zero]
  have hgap : 1 <<< min (1074 - a) (m.log2 + 2) = 2 ^ min (1074 - a) (m.log2 + 2) := by rw [Nat.shiftLeft_eq, Nat.one_mul]
  rw [hgap]
  congr 1
  congr 1
  by_cases hle : 1074 - a ≤ m.log2 + 2
  · rw [show min (1074 - a) (m.log2 + 2) = 1074 - a by omega]
  · rw [show min (1074 - a) (m.log2 + 2) = m.log2 + 2 by omega]
    have hm : m < 2 ^ (m.log2 + 1) := Nat.lt_log2_self
    have h1 : m < 2 ^ (m.log2 + 2) := Nat.lt_of_lt_of_le hm (Nat.pow_le_pow_right (by omega) (by omega))
    have h2 : m < 2 ^ (1074 - a) := Nat.lt_of_lt_of_le h1 (Nat.pow_le_pow_right (by omega) (by omega))
    rw [Nat.div_eq_of_lt h1, Nat.div_eq_of_lt h2]
end Go.Proofs.Ytlgngnkaiidbeaa
