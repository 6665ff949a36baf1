/- Plain facts: an odd number times a power of two; what bytes come to at a price. Nothing of the program. -/
import Derived.Test.YtlgngnkaiidbeaaPlainReal2
import Derived.Laws.BitsAll
import Derived.Lib.BitFns
set_option exponentiation.threshold 3000
set_option linter.unusedVariables false
set_option linter.unusedSimpArgs false
namespace Go.Proofs.Ytlgngnkaiidbeaa

/-- how often two divides n (0 < n < 2^f) -/
def tzF : Nat → Nat → Nat
  | 0, _ => 0
  | f + 1, n => if n % 2 = 0 then tzF f (n / 2) + 1 else 0

theorem tzF_spec : ∀ (f n : Nat), 0 < n → n < 2 ^ f → tzF f n < f ∧ (n / 2 ^ tzF f n) % 2 = 1 ∧ n = 2 ^ tzF f n * (n / 2 ^ tzF f n)
  | 0, n, h0, h1 => by simp at h1; omega
  | f + 1, n, h0, h1 => by
    rw [Nat.pow_succ] at h1
    by_cases h : n % 2 = 0
    · rw [show tzF (f + 1) n = tzF f (n / 2) + 1 from by rw [tzF, if_pos h]]
      obtain ⟨a, b, c⟩ := tzF_spec f (n / 2) (by omega) (by omega)
      generalize tzF f (n / 2) = t at *
      have e : n / 2 ^ (t + 1) = n / 2 / 2 ^ t := by rw [Nat.pow_succ, Nat.mul_comm, Nat.div_div_eq_div_mul]
      rw [e]
      refine ⟨by omega, b, ?_⟩
      rw [Nat.pow_succ, Nat.mul_right_comm, ← c]; omega
    · rw [show tzF (f + 1) n = 0 from by rw [tzF, if_neg h]]
      refine ⟨by omega, by simp; omega, by simp⟩

theorem odd_pow_unique : ∀ (i j a b : Nat), a % 2 = 1 → b % 2 = 1 → 2 ^ i * a = 2 ^ j * b → i = j ∧ a = b
  | 0, 0, a, b, _, _, h => by simp at h; exact ⟨rfl, h⟩
  | 0, j + 1, a, b, ha, _, h => by rw [Nat.pow_succ, Nat.mul_assoc, Nat.mul_left_comm] at h; simp at h; omega
  | i + 1, 0, a, b, _, hb, h => by rw [Nat.pow_succ, Nat.mul_assoc, Nat.mul_left_comm] at h; simp at h; omega
  | i + 1, j + 1, a, b, ha, hb, h => by
    rw [Nat.pow_succ, Nat.pow_succ, Nat.mul_assoc, Nat.mul_left_comm, Nat.mul_assoc (2 ^ j), Nat.mul_left_comm (2 ^ j)] at h
    have := odd_pow_unique i j a b ha hb (by omega)
    omega

theorem and_compl (m j : Nat) (h : j < 2 ^ m) : j &&& (2 ^ m - 1 - j) = 0 := by
  have e0 : BitVec.ofNat m j &&& ~~~ BitVec.ofNat m j = 0#m := by ext i hi; simp
  have e := congrArg BitVec.toNat e0
  rw [BitVec.toNat_and, BitVec.toNat_not, BitVec.toNat_ofNat, Nat.mod_eq_of_lt h] at e
  simpa using e
theorem odd_and (a b : Nat) : (2 * a + 1) &&& (2 * b + 1) = 2 * (a &&& b) + 1 := by
  apply Nat.eq_of_testBit_eq
  intro i
  cases i with
  | zero => rw [Nat.testBit_and, Nat.testBit_zero, Nat.testBit_zero, Nat.testBit_zero, show (2 * a + 1) % 2 = 1 by omega, show (2 * b + 1) % 2 = 1 by omega, show (2 * (a &&& b) + 1) % 2 = 1 by omega]; rfl
  | succ i => rw [Nat.testBit_and, Nat.testBit_succ, Nat.testBit_succ, Nat.testBit_succ, show (2 * a + 1) / 2 = a by omega, show (2 * b + 1) / 2 = b by omega, show (2 * (a &&& b) + 1) / 2 = (a &&& b) by omega, Nat.testBit_and]
theorem mul_and (t u v : Nat) : 2 ^ t * u &&& 2 ^ t * v = 2 ^ t * (u &&& v) := by
  rw [Nat.mul_comm _ u, Nat.mul_comm _ v, Nat.mul_comm _ (u &&& v), ← Nat.shiftLeft_eq, ← Nat.shiftLeft_eq, ← Nat.shiftLeft_eq, Nat.shiftLeft_and_distrib]

theorem lowbit (x : Nat) (h0 : 0 < x) (h1 : x < 18446744073709551616) : x &&& (18446744073709551616 - x) = 2 ^ tzF 64 x := by
  obtain ⟨a, b, c⟩ := tzF_spec 64 x h0 h1
  generalize tzF 64 x = t at *
  generalize x / 2 ^ t = q at *
  obtain ⟨j, rfl⟩ : ∃ j, q = 2 * j + 1 := ⟨q / 2, by omega⟩
  subst c
  have e64 : 18446744073709551616 = 2 ^ t * (2 * 2 ^ (63 - t)) := by
    rw [← Nat.pow_succ', ← Nat.pow_add, show t + (63 - t + 1) = 64 by omega]
  rw [e64] at h1 ⊢
  have h2 := Nat.lt_of_mul_lt_mul_left h1
  rw [← Nat.mul_sub, show 2 * 2 ^ (63 - t) - (2 * j + 1) = 2 * (2 ^ (63 - t) - 1 - j) + 1 by omega, mul_and, odd_and, and_compl _ _ (by omega)]; omega

/-- the table by which the lowest bit's place is found -/
def dbAt (i : Nat) : Nat := ((List.range 64).find? fun k => 2 ^ k * 285870213051353865 % 18446744073709551616 / 288230376151711744 == i).getD 0
theorem dbAt_pow (k : Nat) (h : k < 64) : dbAt (2 ^ k * 285870213051353865 % 18446744073709551616 / 288230376151711744) = k := by
  have : ∀ k, k < 64 → dbAt (2 ^ k * 285870213051353865 % 18446744073709551616 / 288230376151711744) = k := by decide +kernel
  exact this k h

/-- of a positive number: its places, and the power of its last one above 2^-1074 -/
def mantN (x : Nat) : Nat := if x / 4503599627370496 = 0 then x else x % 4503599627370496 + 4503599627370496
def plN (x : Nat) : Nat := x / 4503599627370496 - 1
def prM (x : Nat) : Nat := if clsN x = 5 then mantN x / 2 ^ tzF 64 (mantN x) else 0
def prE (x : Nat) : Int := if clsN x = 5 then -1074 + (plN x : Int) + (tzF 64 (mantN x) : Int) else 0
def prB (x : Nat) : Bool := decide (clsN x = 3 ∨ clsN x = 4 ∨ clsN x = 5)
def valV (x : Nat) : Nat := if clsN x = 5 then mantN x * 2 ^ plN x else 0
def dueN (n x : Nat) : Nat := min (n * valV x / 2 ^ 1074) 18446744073709551615

theorem cls5 {x : Nat} (hx : x < 18446744073709551616) (h : clsN x = 5) : 0 < x ∧ x < 9218868437227405312 := by
  rcases cls_ranges hx with ⟨_, h'⟩ | ⟨_, _, h'⟩ | ⟨_, h'⟩ | ⟨_, _, h'⟩ | ⟨_, h'⟩ | ⟨_, _, h'⟩ | ⟨_, h'⟩ | ⟨_, h'⟩ <;> omega
theorem mant_rng {x : Nat} (h0 : 0 < x) (h1 : x < 9218868437227405312) : 0 < mantN x ∧ mantN x < 9007199254740992 ∧ plN x ≤ 2045 := by
  unfold mantN plN
  refine ⟨?_, ?_, by omega⟩ <;> split <;> omega

theorem pow64 : (2 : Nat) ^ 64 = 18446744073709551616 := by decide
theorem down_hi (h l s : Nat) (hh : h < 18446744073709551616) (hl : l < 18446744073709551616) (hs : 64 ≤ s) :
    h / 2 ^ min (s - 64) 64 = min ((h * 18446744073709551616 + l) / 2 ^ s) 18446744073709551615 := by
  have e : (h * 18446744073709551616 + l) / 2 ^ s = h / 2 ^ (s - 64) := by
    rw [show 2 ^ s = 2 ^ 64 * 2 ^ (s - 64) by rw [← Nat.pow_add]; congr 1; omega, ← Nat.div_div_eq_div_mul, pow64]
    congr 1; omega
  rw [e]
  have hle : h / 2 ^ (s - 64) ≤ h := Nat.div_le_self _ _
  rw [Nat.min_eq_left (by omega : h / 2 ^ (s - 64) ≤ 18446744073709551615)]
  rcases Nat.le_total (s - 64) 64 with a | a
  · rw [Nat.min_eq_left a]
  · rw [Nat.min_eq_right a, pow64, Nat.div_eq_of_lt hh, Nat.div_eq_of_lt]
    exact Nat.lt_of_lt_of_le (by rw [← pow64] at hh; exact hh) (Nat.pow_le_pow_right (by omega) a)
theorem pow_split {s : Nat} (hs : s ≤ 64) : 18446744073709551616 = 2 ^ (64 - s) * 2 ^ s := by rw [← Nat.pow_add, show 64 - s + s = 64 by omega]
theorem down_big (h l s : Nat) (hs : s < 64) (hz : h / 2 ^ s ≠ 0) : 18446744073709551615 = min ((h * 18446744073709551616 + l) / 2 ^ s) 18446744073709551615 := by
  have hp : 0 < 2 ^ s := Nat.pow_pos (by omega)
  have h1 : 2 ^ s ≤ h := by
    rcases Nat.lt_or_ge h (2 ^ s) with a | a
    · exact absurd (Nat.div_eq_of_lt a) hz
    · exact a
  have h2 : 18446744073709551616 ≤ (h * 18446744073709551616 + l) / 2 ^ s := by
    rw [Nat.le_div_iff_mul_le hp, Nat.mul_comm]
    exact Nat.le_trans (Nat.mul_le_mul_right _ h1) (Nat.le_add_right _ _)
  omega
theorem down_lo (h l s : Nat) (hl : l < 18446744073709551616) (hs : s < 64) (hz : h / 2 ^ s = 0) :
    h * 2 ^ (64 - s) < 18446744073709551616 ∧ l / 2 ^ s < 2 ^ (64 - s) ∧ h * 2 ^ (64 - s) ||| l / 2 ^ s = min ((h * 18446744073709551616 + l) / 2 ^ s) 18446744073709551615 := by
  have hp : 0 < 2 ^ s := Nat.pow_pos (by omega)
  have hq : 0 < 2 ^ (64 - s) := Nat.pow_pos (by omega)
  have e := pow_split (s := s) (by omega)
  have h1 : h < 2 ^ s := (Nat.div_eq_zero_iff_lt hp).1 hz
  have h2 : h * 2 ^ (64 - s) < 18446744073709551616 := by rw [e, Nat.mul_comm]; exact Nat.mul_lt_mul_of_pos_left h1 hq
  have h3 : l / 2 ^ s < 2 ^ (64 - s) := by rw [Nat.div_lt_iff_lt_mul hp, ← e]; exact hl
  have h4 : (h * 18446744073709551616 + l) / 2 ^ s = h * 2 ^ (64 - s) + l / 2 ^ s := by
    rw [e, ← Nat.mul_assoc, Nat.add_comm, Nat.add_mul_div_right _ _ hp, Nat.add_comm]
  have h5 : h * 2 ^ (64 - s) + l / 2 ^ s ≤ 18446744073709551615 := by
    have : (h + 1) * 2 ^ (64 - s) ≤ 18446744073709551616 := by rw [e, Nat.mul_comm (2 ^ (64 - s))]; exact Nat.mul_le_mul_right _ h1
    rw [Nat.succ_mul] at this
    omega
  refine ⟨h2, h3, ?_⟩
  rw [Go.nat_join (64 - s) _ _ (by simp) h3, h4, Nat.min_eq_left h5]
theorem lenAux_spec : ∀ (f x : Nat), x < 2 ^ f → x < 2 ^ Go.Lib.bitLenAux f x ∧ (x ≠ 0 → 0 < Go.Lib.bitLenAux f x ∧ 2 ^ (Go.Lib.bitLenAux f x - 1) ≤ x)
  | 0, x, h => by
    have : x = 0 := by simp at h; omega
    subst this
    simp [Go.Lib.bitLenAux]
  | f + 1, x, h => by
    by_cases h0 : x = 0
    · subst h0; simp [Go.Lib.bitLenAux]
    · rw [Nat.pow_succ] at h
      have hz : Go.Lib.bitLenAux f 0 = 0 := by cases f <;> simp [Go.Lib.bitLenAux]
      have hz2 : x / 2 = 0 → Go.Lib.bitLenAux f (x / 2) = 0 := fun e => by rw [e]; exact hz
      obtain ⟨a, b⟩ := lenAux_spec f (x / 2) (by omega)
      rw [show Go.Lib.bitLenAux (f + 1) x = 1 + Go.Lib.bitLenAux f (x / 2) from by rw [Go.Lib.bitLenAux, if_neg h0]]
      generalize Go.Lib.bitLenAux f (x / 2) = t at *
      refine ⟨by rw [Nat.add_comm, Nat.pow_succ]; omega, fun _ => ⟨by omega, ?_⟩⟩
      rw [Nat.add_sub_cancel_left]
      by_cases h1 : x / 2 = 0
      · rw [hz2 h1]; simp; omega
      · obtain ⟨c, d⟩ := b h1
        rw [show 2 ^ t = 2 ^ (t - 1) * 2 by rw [← Nat.pow_succ]; congr 1; omega]
        omega
theorem len_spec (x : Nat) (h : x < 18446744073709551616) : x < 2 ^ Go.Lib.bitLen x ∧ (x ≠ 0 → 0 < Go.Lib.bitLen x ∧ 2 ^ (Go.Lib.bitLen x - 1) ≤ x) := lenAux_spec 64 x h
theorem up_big (l s : Nat) (hl : l < 18446744073709551616) (h : 64 < Go.Lib.bitLen l + s) (h0 : l ≠ 0) : 18446744073709551615 = min (l * 2 ^ s) 18446744073709551615 := by
  obtain ⟨hb, h1⟩ := (len_spec l hl).2 h0
  have h2 : 2 ^ (Go.Lib.bitLen l - 1) * 2 ^ s ≤ l * 2 ^ s := Nat.mul_le_mul_right _ h1
  rw [← Nat.pow_add] at h2
  have h3 : 2 ^ 64 ≤ 2 ^ (Go.Lib.bitLen l - 1 + s) := Nat.pow_le_pow_right (by omega) (by omega)
  rw [pow64] at h3
  omega
theorem up_small (l s : Nat) (hl : l < 18446744073709551616) (h : Go.Lib.bitLen l + s ≤ 64) : l * 2 ^ s < 18446744073709551616 ∧ l * 2 ^ s = min (l * 2 ^ s) 18446744073709551615 := by
  have h1 := (len_spec l hl).1
  have h2 : l * 2 ^ s < 2 ^ Go.Lib.bitLen l * 2 ^ s := Nat.mul_lt_mul_of_pos_right h1 (Nat.pow_pos (by omega))
  rw [← Nat.pow_add] at h2
  have h3 : 2 ^ (Go.Lib.bitLen l + s) ≤ 2 ^ 64 := Nat.pow_le_pow_right (by omega) h
  rw [pow64] at h3
  omega

/-- what the parts come to is what the number comes to -/
theorem due_down (n x s : Nat) (hx : x < 18446744073709551616) (h5 : clsN x = 5) (he : prE x = -(s : Int)) : n * prM x / 2 ^ s = n * valV x / 2 ^ 1074 := by
  obtain ⟨h0, h1⟩ := cls5 hx h5
  obtain ⟨a, b, c⟩ := mant_rng h0 h1
  obtain ⟨d, e, f⟩ := tzF_spec 64 (mantN x) a (by omega)
  unfold prE at he
  unfold prM valV
  rw [if_pos h5] at *
  rw [if_pos h5]
  generalize tzF 64 (mantN x) = t at *
  generalize mantN x / 2 ^ t = m at *
  rw [f, show n * (2 ^ t * m * 2 ^ plN x) = n * m * 2 ^ (t + plN x) by rw [Nat.pow_add]; ac_rfl]
  rw [show 2 ^ 1074 = 2 ^ s * 2 ^ (t + plN x) by rw [← Nat.pow_add]; congr 1; omega, Nat.mul_div_mul_right _ _ (Nat.pow_pos (by omega))]
theorem due_up (n x s : Nat) (hx : x < 18446744073709551616) (h5 : clsN x = 5) (he : prE x = (s : Int)) : n * prM x * 2 ^ s = n * valV x / 2 ^ 1074 := by
  obtain ⟨h0, h1⟩ := cls5 hx h5
  obtain ⟨a, b, c⟩ := mant_rng h0 h1
  obtain ⟨d, e, f⟩ := tzF_spec 64 (mantN x) a (by omega)
  unfold prE at he
  unfold prM valV
  rw [if_pos h5] at *
  rw [if_pos h5]
  generalize tzF 64 (mantN x) = t at *
  generalize mantN x / 2 ^ t = m at *
  rw [f, show n * (2 ^ t * m * 2 ^ plN x) = n * m * 2 ^ (t + plN x) by rw [Nat.pow_add]; ac_rfl]
  rw [show t + plN x = s + 1074 by omega, Nat.pow_add, ← Nat.mul_assoc, Nat.mul_div_cancel _ (Nat.pow_pos (by omega))]
theorem prM_lt {x : Nat} (hx : x < 18446744073709551616) : prM x < 9007199254740992 := by
  unfold prM
  split
  · rename_i h5
    obtain ⟨h0, h1⟩ := cls5 hx h5
    obtain ⟨a, b, c⟩ := mant_rng h0 h1
    exact Nat.lt_of_le_of_lt (Nat.div_le_self _ _) b
  · omega
theorem prE_rng {x : Nat} (hx : x < 18446744073709551616) : -1074 ≤ prE x ∧ prE x ≤ 1100 := by
  unfold prE
  split
  · rename_i h5
    obtain ⟨h0, h1⟩ := cls5 hx h5
    obtain ⟨a, b, c⟩ := mant_rng h0 h1
    obtain ⟨d, e, f⟩ := tzF_spec 64 (mantN x) a (by omega)
    omega
  · omega

theorem val_mono {x y : Nat} (hx : x < 18446744073709551616) (hy : y < 18446744073709551616) (h5 : clsN x = 5) (h6 : clsN y = 5) (hle : x ≤ y) : valV x ≤ valV y := by
  unfold valV
  rw [if_pos h5, if_pos h6]
  obtain ⟨h0, h1⟩ := cls5 hx h5
  obtain ⟨a, b, c⟩ := mant_rng h0 h1
  by_cases hq : x / 4503599627370496 = y / 4503599627370496
  · have e : plN x = plN y := by unfold plN; rw [hq]
    rw [e]
    refine Nat.mul_le_mul_right _ ?_
    unfold mantN
    rw [hq]
    split <;> omega
  · have hq2 : x / 4503599627370496 < y / 4503599627370496 := by
      have : x / 4503599627370496 ≤ y / 4503599627370496 := Nat.div_le_div_right hle
      omega
    have m2 : 4503599627370496 ≤ mantN y := by unfold mantN; rw [if_neg (by omega)]; omega
    by_cases hz : x / 4503599627370496 = 0
    · have m1 : mantN x < 4503599627370496 := by unfold mantN; rw [if_pos hz]; omega
      have p1 : plN x = 0 := by unfold plN; omega
      rw [p1, Nat.pow_zero, Nat.mul_one]
      have : mantN y * 1 ≤ mantN y * 2 ^ plN y := Nat.mul_le_mul_left _ (Nat.pow_pos (by omega))
      omega
    · have p2 : plN x + 1 ≤ plN y := by unfold plN; omega
      have e1 : mantN x * 2 ^ plN x ≤ 9007199254740992 * 2 ^ plN x := Nat.mul_le_mul_right _ (by omega)
      have e2 : 4503599627370496 * 2 ^ (plN x + 1) ≤ mantN y * 2 ^ plN y := Nat.mul_le_mul m2 (Nat.pow_le_pow_right (by omega) p2)
      rw [Nat.pow_succ] at e2
      omega
theorem due_mono {a b x y : Nat} (h1 : a ≤ b) (h2 : valV x ≤ valV y) : dueN a x ≤ dueN b y := by
  unfold dueN
  have := Nat.div_le_div_right (c := 2 ^ 1074) (Nat.mul_le_mul h1 h2)
  generalize a * valV x / 2 ^ 1074 = p at *
  generalize b * valV y / 2 ^ 1074 = q at *
  omega
theorem due_zero (x : Nat) : dueN 0 x = 0 := by unfold dueN; rw [Nat.zero_mul, Nat.zero_div]; rfl
theorem rises {a b x y : Nat} (hx : x < 18446744073709551616) (hy : y < 18446744073709551616) (h1 : prB x = true) (h2 : prB y = true) (hab : a ≤ b) (hl : lessN (canonN y) (canonN x) = false) : dueN a x ≤ dueN b y := by
  refine due_mono hab ?_
  have h1 : clsN x = 3 ∨ clsN x = 4 ∨ clsN x = 5 := by simpa [prB] using h1
  have h2 : clsN y = 3 ∨ clsN y = 4 ∨ clsN y = 5 := by simpa [prB] using h2
  by_cases h5 : clsN x = 5
  · by_cases h6 : clsN y = 5
    · refine val_mono hx hy h5 h6 ?_
      have e1 : canonN x = x := by unfold canonN; rw [if_neg (by omega), if_neg (by omega)]
      have e2 : canonN y = y := by unfold canonN; rw [if_neg (by omega), if_neg (by omega)]
      rw [e1, e2, less_key hy hx] at hl
      have hl := of_decide_eq_false hl
      unfold keyN at hl
      rw [if_neg (by omega), if_neg (by omega), if_neg (by omega), if_neg (by omega)] at hl
      omega
    · exfalso
      have e1 : canonN x = x := by unfold canonN; rw [if_neg (by omega), if_neg (by omega)]
      have hc : canonN y = 0 := by
        rcases cls_ranges hy with ⟨_, h'⟩ | ⟨_, _, h'⟩ | ⟨_, h'⟩ | ⟨_, _, h'⟩ | ⟨_, h'⟩ | ⟨_, _, h'⟩ | ⟨_, h'⟩ | ⟨_, h'⟩ <;> unfold canonN <;> (try rw [h']) <;> first | omega | simp <;> omega
      have hc0 : clsN 0 = 4 := by decide
      rw [e1, hc, less_key (by omega) hx] at hl
      have hl := of_decide_eq_false hl
      unfold keyN at hl
      rw [hc0, if_neg (by omega), if_neg (by omega), if_neg (by omega), if_neg (by omega)] at hl
      have := (cls5 hx h5).1
      omega
  · unfold valV
    rw [if_neg h5]
    omega
end Go.Proofs.Ytlgngnkaiidbeaa
