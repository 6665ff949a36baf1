/- The plain law of picks: the place that a fraction picks of so many. -/
import Derived.Test.YtlgngnkaiidbeaaPlainPick
import Derived.Test.YtlgngnkaiidbeaaPlainPrice
import Derived.Test.YtlgngnkaiidbeaaPlainReal2
set_option maxRecDepth 100000
set_option exponentiation.threshold 3000
set_option linter.unusedVariables false
set_option linter.unusedSimpArgs false
namespace Go.Proofs.Ytlgngnkaiidbeaa

/-- the first 53 places of a number below one -/
def kN (x : Nat) : Nat := valV x / 2 ^ 1021
def pickN (x : Nat) (n : Int) : Int :=
  if n < 1 then -1 else if clsN x = 6 then n - 1 else if clsN x = 5 then (if 4607182418800017408 ≤ x then n - 1 else ((kN x * n.toNat / 9007199254740992 : Nat) : Int)) else 0

theorem mant_split (x : Nat) : x = plN x * 4503599627370496 + mantN x := by unfold plN mantN; split <;> omega
theorem mant_norm {x : Nat} (h : plN x ≠ 0) : 4503599627370496 ≤ mantN x := by unfold plN at h; unfold mantN; split <;> omega
theorem val_eq {x : Nat} (h : clsN x = 5) : valV x = mantN x * 2 ^ plN x := if_pos h
theorem pow_pos2 (k : Nat) : 0 < 2 ^ k := Nat.pow_pos (by omega)
theorem val_lt {x : Nat} (hx : x < 4607182418800017408) (h5 : clsN x = 5) : valV x < 2 ^ 1074 := by
  rw [val_eq h5]
  obtain ⟨a0, a1⟩ := cls5 (by omega) h5
  obtain ⟨m1, m2, m3⟩ := mant_rng a0 a1
  have hp : plN x ≤ 1021 := by unfold plN; omega
  have h1 : mantN x * 2 ^ plN x < 2 ^ 53 * 2 ^ plN x := Nat.mul_lt_mul_of_pos_right (by simpa using m2) (pow_pos2 _)
  rw [← Nat.pow_add] at h1
  exact Nat.lt_of_lt_of_le h1 (Nat.pow_le_pow_right (by omega) (by omega))
theorem kN_lt {x : Nat} (hx : x < 4607182418800017408) (h5 : clsN x = 5) : kN x < 9007199254740992 := by
  unfold kN
  rw [Nat.div_lt_iff_lt_mul (pow_pos2 _), show (9007199254740992 : Nat) = 2 ^ 53 by decide, ← Nat.pow_add]
  exact val_lt hx h5
theorem kN_mono {x y : Nat} (hx : x < 18446744073709551616) (hy : y < 18446744073709551616) (h5 : clsN x = 5) (k5 : clsN y = 5) (h : x ≤ y) : kN x ≤ kN y := Nat.div_le_div_right (val_mono hx hy h5 k5 h)
/-- as the program finds it -/
theorem kN_prog {x : Nat} (h5 : clsN x = 5) (hp : plN x ≤ 1021) : kN x = mantN x / 2 ^ (1021 - plN x) := by
  unfold kN
  rw [val_eq h5, show (2 : Nat) ^ 1021 = 2 ^ (1021 - plN x) * 2 ^ plN x by rw [← Nat.pow_add]; congr 1; omega, Nat.mul_div_mul_right _ _ (pow_pos2 _)]
theorem kN_small {x : Nat} (h5 : clsN x = 5) (hx : x < 4503599627370496) : kN x = 0 := by
  have hp : plN x = 0 := by unfold plN; omega
  have hm : mantN x = x := by unfold mantN; rw [if_pos (by omega)]
  rw [kN_prog h5 (by omega), hp, hm]
  refine Nat.div_eq_of_lt ?_
  have : (2 : Nat) ^ 52 ≤ 2 ^ (1021 - 0) := Nat.pow_le_pow_right (by omega) (by omega)
  have e : (2 : Nat) ^ 52 = 4503599627370496 := by decide
  omega
/-- as the document finds it: of the odd part, and the power -/
theorem kN_ref {x q : Nat} (hx : x < 18446744073709551616) (h5 : clsN x = 5) (he : prE x = -(q : Int)) : kN x = prM x * 9007199254740992 / 2 ^ q := by
  have h := due_down 9007199254740992 x q hx h5 he
  rw [Nat.mul_comm, h]
  unfold kN
  rw [show (2 : Nat) ^ 1074 = 2 ^ 1021 * 9007199254740992 by rw [show (9007199254740992 : Nat) = 2 ^ 53 by decide, ← Nat.pow_add], Nat.mul_comm 9007199254740992, Nat.mul_div_mul_right _ _ (by decide)]
/-- one and above -/
theorem ref_one {x : Nat} (hx : x < 18446744073709551616) (h5 : clsN x = 5) : 4607182418800017408 ≤ x ↔ (0 ≤ prE x ∨ ∃ q : Nat, prE x = -(q : Int) ∧ 1 ≤ q ∧ q ≤ 63 ∧ 0 < prM x / 2 ^ q) := by
  obtain ⟨a0, a1⟩ := cls5 hx h5
  obtain ⟨m1, m2, m3⟩ := mant_rng a0 a1
  obtain ⟨ht, t2, t3⟩ := tzF_spec 64 (mantN x) m1 (by omega)
  have hM : prM x = mantN x / 2 ^ tzF 64 (mantN x) := if_pos h5
  have hE : prE x = -1074 + (plN x : Int) + (tzF 64 (mantN x) : Int) := if_pos h5
  have e1 := mant_split x
  have z := mant_norm (x := x)
  rw [hM, hE]
  generalize mantN x / 2 ^ tzF 64 (mantN x) = m at *
  generalize tzF 64 (mantN x) = t at *
  generalize mantN x = M at *
  generalize plN x = p at *
  have hm0 : 0 < m := by
    rcases Nat.eq_zero_or_pos m with h | h
    · rw [h] at t2; simp at t2
    · exact h
  constructor
  · intro h1
    have hp : 1022 ≤ p := by omega
    have hM52 := z (by omega)
    by_cases h0 : 0 ≤ -1074 + (p : Int) + (t : Int)
    · exact .inl h0
    · refine .inr ⟨1074 - p - t, by omega, by omega, by omega, ?_⟩
      refine Nat.div_pos ?_ (pow_pos2 _)
      have hle : 2 ^ (1074 - p) ≤ M := Nat.le_trans (Nat.pow_le_pow_right (by omega) (by omega : 1074 - p ≤ 52)) (by simpa using hM52)
      have hs : 2 ^ (1074 - p) = 2 ^ t * 2 ^ (1074 - p - t) := by rw [← Nat.pow_add]; congr 1; omega
      rw [hs, t3] at hle
      exact Nat.le_of_mul_le_mul_left hle (pow_pos2 _)
  · intro h1
    rcases Nat.lt_or_ge x 4607182418800017408 with hlt | hge
    · exfalso
      have hp : p ≤ 1021 := by omega
      have h53 : M < 2 ^ 53 := by simpa using m2
      have hmt : m * 2 ^ t < 2 ^ 53 := by rw [Nat.mul_comm]; rw [← t3]; exact h53
      rcases h1 with h1 | ⟨q, hq, _, _, h1⟩
      · have h2 : 2 ^ 53 ≤ 2 ^ t := Nat.pow_le_pow_right (by omega) (by omega)
        have h3 : 1 * 2 ^ t ≤ m * 2 ^ t := Nat.mul_le_mul_right _ hm0
        omega
      · have h2 : 2 ^ q ≤ m := by
          rcases Nat.lt_or_ge m (2 ^ q) with h | h
          · rw [Nat.div_eq_of_lt h] at h1; omega
          · exact h
        have h3 : 2 ^ q * 2 ^ t ≤ m * 2 ^ t := Nat.mul_le_mul_right _ h2
        rw [← Nat.pow_add] at h3
        have h4 : 2 ^ 53 ≤ 2 ^ (q + t) := Nat.pow_le_pow_right (by omega) (by omega)
        omega
    · exact hge

/-- the document's loops -/
theorem k_step (m q i : Nat) : m * 2 ^ (i + 1) / 2 ^ q = 2 * (m * 2 ^ i / 2 ^ q) + (if i + 1 ≤ q then m / 2 ^ (q - (i + 1)) % 2 else 0) := by
  split
  · rename_i h
    have e1 : m * 2 ^ (i + 1) / 2 ^ q = m / 2 ^ (q - (i + 1)) := by
      rw [show 2 ^ q = 2 ^ (q - (i + 1)) * 2 ^ (i + 1) by rw [← Nat.pow_add]; congr 1; omega, Nat.mul_div_mul_right _ _ (pow_pos2 _)]
    have e2 : m * 2 ^ i / 2 ^ q = m / 2 ^ (q - (i + 1)) / 2 := by
      rw [show 2 ^ q = 2 ^ (q - (i + 1)) * 2 * 2 ^ i by rw [← Nat.pow_succ, ← Nat.pow_add]; congr 1; omega, Nat.mul_div_mul_right _ _ (pow_pos2 _), Nat.div_div_eq_div_mul]
    rw [e1, e2]; omega
  · rename_i h
    have e1 : m * 2 ^ (i + 1) / 2 ^ q = m * 2 ^ (i + 1 - q) := by
      rw [show 2 ^ (i + 1) = 2 ^ (i + 1 - q) * 2 ^ q by rw [← Nat.pow_add]; congr 1; omega, ← Nat.mul_assoc, Nat.mul_div_cancel _ (pow_pos2 _)]
    have e2 : m * 2 ^ i / 2 ^ q = m * 2 ^ (i - q) := by
      rw [show 2 ^ i = 2 ^ (i - q) * 2 ^ q by rw [← Nat.pow_add]; congr 1; omega, ← Nat.mul_assoc, Nat.mul_div_cancel _ (pow_pos2 _)]
    rw [e1, e2, show i + 1 - q = i - q + 1 by omega, Nat.pow_succ, ← Nat.mul_assoc]; omega
theorem far_bit {m j : Nat} (hm : m < 9007199254740992) (hj : 53 ≤ j) : m / 2 ^ j % 2 = 0 := by
  have : (2 : Nat) ^ 53 ≤ 2 ^ j := Nat.pow_le_pow_right (by omega) hj
  have e : (2 : Nat) ^ 53 = 9007199254740992 := by decide
  rw [Nat.div_eq_of_lt (by omega)]
/-- of long multiplication, a step: what is there of k times n, above 2^53, and below -/
theorem o_step (k n i out rest : Nat) (h : out * 9007199254740992 + rest = k * (n / 2 ^ (i + 1))) :
    (2 * out + (2 * rest + n / 2 ^ i % 2 * k) / 9007199254740992) * 9007199254740992 + (2 * rest + n / 2 ^ i % 2 * k) % 9007199254740992 = k * (n / 2 ^ i) := by
  have e : n / 2 ^ i = 2 * (n / 2 ^ (i + 1)) + n / 2 ^ i % 2 := by
    rw [Nat.pow_succ, ← Nat.div_div_eq_div_mul]; omega
  generalize n / 2 ^ (i + 1) = b at *
  generalize n / 2 ^ i % 2 = c at *
  have e2 : k * (2 * b + c) = 2 * (k * b) + c * k := by rw [Nat.mul_add, Nat.mul_left_comm, Nat.mul_comm k c]
  rw [e, e2, ← h]
  generalize c * k = ck at *
  have e3 := Nat.div_add_mod (2 * rest + ck) 9007199254740992
  generalize (2 * rest + ck) / 9007199254740992 = q at *
  generalize (2 * rest + ck) % 9007199254740992 = r at *
  rw [Nat.add_mul, Nat.mul_comm q, Nat.mul_assoc]
  generalize out * 9007199254740992 = o at *
  generalize 9007199254740992 * q = s at *
  omega

theorem pick_rng {x : Nat} {n : Int} (hx : x < 18446744073709551616) (hn : 1 ≤ n) : 0 ≤ pickN x n ∧ pickN x n < n := by
  unfold pickN
  rw [if_neg (by omega)]
  split
  · omega
  split
  · rename_i h5
    split
    · omega
    · rename_i h1
      have hk := kN_lt (by omega) h5
      have h2 : kN x * n.toNat / 9007199254740992 < n.toNat := by
        rw [Nat.div_lt_iff_lt_mul (by omega), Nat.mul_comm n.toNat]
        exact Nat.mul_lt_mul_of_pos_right hk (by omega)
      omega
  · omega
theorem pick_mono {x y : Nat} {n : Int} (hx : x < 18446744073709551616) (hy : y < 18446744073709551616) (h0 : clsN x ≠ 0) (k0 : clsN y ≠ 0) (hl : lessN x y = true) : pickN x n ≤ pickN y n := by
  by_cases hn : n < 1
  · unfold pickN; rw [if_pos hn, if_pos hn]; exact Int.le_refl _
  have hry := pick_rng (n := n) hy (by omega)
  have hrx := pick_rng (n := n) hx (by omega)
  have cle : ∀ z, clsN z ≤ 6 := by
    intro z
    unfold clsN
    repeat' split
    all_goals omega
  have hl2 : (clsN x ≠ clsN y → clsN x < clsN y) ∧ (clsN x = clsN y → clsN x ≠ 2 → x < y) := by
    unfold lessN at hl
    rw [if_neg (by omega)] at hl
    by_cases hc : clsN x ≠ clsN y
    · rw [if_pos hc] at hl
      exact ⟨fun _ => of_decide_eq_true hl, fun h => absurd h hc⟩
    · rw [if_neg hc] at hl
      refine ⟨fun h => absurd h hc, fun _ h2 => ?_⟩
      rw [if_neg h2] at hl
      exact of_decide_eq_true hl
  have cx := cle x
  have cy := cle y
  by_cases c6 : clsN y = 6
  · have : pickN y n = n - 1 := by unfold pickN; rw [if_neg hn, if_pos c6]
    omega
  by_cases x6 : clsN x = 6
  · exfalso
    have := hl2.1 (by omega)
    omega
  by_cases x5 : clsN x = 5
  · by_cases y5 : clsN y = 5
    · have hlt := hl2.2 (by omega) (by omega)
      by_cases y1 : 4607182418800017408 ≤ y
      · have : pickN y n = n - 1 := by unfold pickN; rw [if_neg hn, if_neg c6, if_pos y5, if_pos y1]
        omega
      · unfold pickN
        rw [if_neg hn, if_neg x6, if_pos x5, if_neg (by omega), if_neg hn, if_neg c6, if_pos y5, if_neg y1]
        have hk := kN_mono hx hy x5 y5 (by omega)
        have := Nat.div_le_div_right (c := 9007199254740992) (Nat.mul_le_mul_right n.toNat hk)
        omega
    · exfalso
      have := hl2.1 (by omega)
      omega
  · have : pickN x n = 0 := by unfold pickN; rw [if_neg hn, if_neg x6, if_neg x5]
    omega
end Go.Proofs.Ytlgngnkaiidbeaa
