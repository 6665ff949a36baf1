/- Plain facts: numbers as lists of bits; a product bit by bit; its whole part. Nothing of the program. -/
import Derived.Test.YtkbjnlbbfapgdaaDoorPlainPrice
set_option exponentiation.threshold 3000
set_option linter.unusedVariables false
set_option linter.unusedSimpArgs false
namespace Go.Proofs.YtkbjnlbbfapgdaaDoor

def valL : List Nat → Nat
  | [] => 0
  | a :: l => a + 2 * valL l
theorem valL_append : ∀ (a b : List Nat), valL (a ++ b) = valL a + 2 ^ a.length * valL b
  | [], b => by simp [valL]
  | x :: a, b => by
    rw [List.cons_append, valL, valL, valL_append a b, List.length_cons, Nat.pow_succ, Nat.mul_add, Nat.mul_comm (2 ^ a.length) 2, Nat.mul_assoc]; omega
theorem valL_rep (n : Nat) : valL (List.replicate n 0) = 0 := by
  induction n with
  | zero => rfl
  | succ n ih => rw [List.replicate_succ, valL, ih]
theorem valL_set : ∀ (l : List Nat) (i v : Nat) (hi : i < l.length), valL (l.set i v) + 2 ^ i * l[i] = valL l + 2 ^ i * v
  | x :: l, 0, v, _ => by simp [valL]; omega
  | x :: l, i + 1, v, hi => by
    have := valL_set l i v (by simpa using hi)
    rw [List.set_cons_succ, valL, valL, List.getElem_cons_succ, Nat.pow_succ, Nat.mul_comm (2 ^ i) 2, Nat.mul_assoc, Nat.mul_assoc]
    omega
theorem valL_take (l : List Nat) (k : Nat) (hk : k < l.length) : valL (l.take (k + 1)) = valL (l.take k) + 2 ^ k * l[k] := by
  rw [List.take_succ_eq_append_getElem hk, valL_append, List.length_take, Nat.min_eq_left (by omega)]; simp [valL]
theorem valL_lt : ∀ (l : List Nat), (∀ x ∈ l, x ≤ 1) → valL l < 2 ^ l.length
  | [], _ => by simp [valL]
  | x :: l, h => by
    have h1 := h x (by simp)
    have h2 := valL_lt l (fun y hy => h y (by simp [hy]))
    rw [valL, List.length_cons, Nat.pow_succ]; omega
theorem valL_drop (l : List Nat) (i : Nat) (hi : i < l.length) : valL (l.drop i) = l[i] + 2 * valL (l.drop (i + 1)) := by
  rw [List.drop_eq_getElem_cons hi, valL]
theorem valL_split (l : List Nat) (i : Nat) (hi : i ≤ l.length) : 2 ^ i * valL (l.drop i) ≤ valL l := by
  have := valL_append (l.take i) (l.drop i)
  rw [List.take_append_drop, List.length_take, Nat.min_eq_left hi] at this
  omega

def bitsF : Nat → Nat → List Nat
  | 0, _ => []
  | f + 1, n => if n = 0 then [] else n % 2 :: bitsF f (n / 2)
theorem bitsF_zero (f : Nat) : bitsF f 0 = [] := by cases f <;> simp [bitsF]
theorem bitsF_spec : ∀ (f n : Nat), n < 2 ^ f → valL (bitsF f n) = n ∧ (bitsF f n).length ≤ f ∧ ∀ x ∈ bitsF f n, x ≤ 1
  | 0, n, h => by simp at h; subst h; simp [bitsF, valL]
  | f + 1, n, h => by
    rw [Nat.pow_succ] at h
    by_cases h0 : n = 0
    · subst h0; simp [bitsF, valL]
    · obtain ⟨a, b, c⟩ := bitsF_spec f (n / 2) (by omega)
      rw [bitsF, if_neg h0]
      refine ⟨by rw [valL, a]; omega, by simpa using b, ?_⟩
      intro x hx
      rcases List.mem_cons.1 hx with rfl | hx
      · omega
      · exact c x hx

theorem prod_step (a b out : List Nat) (i k : Nat) (hi : i < a.length) (hk : k < b.length) (ho : i + k < out.length)
    (h : valL out = valL (a.take i) * valL b + 2 ^ i * a[i] * valL (b.take k)) :
    valL (out.set (i + k) (out[i + k] + a[i] * b[k])) = valL (a.take i) * valL b + 2 ^ i * a[i] * valL (b.take (k + 1)) := by
  have h1 := valL_set out (i + k) (out[i + k] + a[i] * b[k]) ho
  rw [valL_take b k hk, Nat.mul_add (2 ^ i * a[i]), ← Nat.add_assoc, ← h, show 2 ^ i * a[i] * (2 ^ k * b[k]) = 2 ^ (i + k) * (a[i] * b[k]) by rw [Nat.pow_add]; ac_rfl]
  rw [Nat.mul_add] at h1
  omega
theorem prod_next (a b : List Nat) (i : Nat) (hi : i < a.length) : valL (a.take i) * valL b + 2 ^ i * a[i] * valL b = valL (a.take (i + 1)) * valL b := by
  rw [valL_take a i hi, Nat.add_mul]
theorem carry_step (out : List Nat) (i : Nat) (ho : i + 1 < out.length) : valL ((out.set (i + 1) (out[i + 1] + out[i] / 2)).set i (out[i] % 2)) = valL out := by
  have h1 := valL_set out (i + 1) (out[i + 1] + out[i] / 2) ho
  have h2 := valL_set (out.set (i + 1) (out[i + 1] + out[i] / 2)) i (out[i] % 2) (by simp; omega)
  rw [List.getElem_set_ne (by omega)] at h2
  rw [Nat.mul_add, Nat.pow_succ, Nat.mul_assoc _ 2 (out[i] / 2)] at h1
  have h3 : 2 ^ i * out[i] = 2 ^ i * (2 * (out[i] / 2)) + 2 ^ i * (out[i] % 2) := by rw [← Nat.mul_add]; congr 1; omega
  omega

/-- bounds of the list while carries go up -/
def Carry (out : List Nat) (i : Nat) : Prop := ∀ j (hj : j < out.length), (j < i → out[j] ≤ 1) ∧ (j = i → out[j] ≤ 8192) ∧ (i < j → out[j] ≤ 4096)
theorem carry_keep (out : List Nat) (i : Nat) (ho : i + 1 < out.length) (h : Carry out i) : Carry ((out.set (i + 1) (out[i + 1] + out[i] / 2)).set i (out[i] % 2)) (i + 1) := by
  intro j hj
  simp at hj
  have h1 := (h i (by omega)).2.1 rfl
  have h2 := (h (i + 1) ho).2.2 (by omega)
  have h3 := h j hj
  simp only [List.getElem_set]
  by_cases e1 : i = j
  · rw [if_pos e1]; omega
  · rw [if_neg e1]
    by_cases e2 : i + 1 = j
    · rw [if_pos e2]; omega
    · rw [if_neg e2]; omega
theorem carry_end (out : List Nat) (n P : Nat) (hl : out.length = n + 1) (h : Carry out n) (hv : valL out = P) (hP : P < 2 ^ n) : ∀ x ∈ out, x ≤ 1 := by
  intro x hx
  obtain ⟨j, hj, rfl⟩ := List.getElem_of_mem hx
  by_cases e : j < n
  · exact (h j hj).1 e
  · have e : j = n := by omega
    subst e
    have h1 := valL_split out j (by omega)
    rw [valL_drop out j hj, hv, Nat.mul_add] at h1
    rcases Nat.eq_zero_or_pos out[j] with h0 | h0
    · omega
    · have : 2 ^ j * 1 ≤ 2 ^ j * out[j] := Nat.mul_le_mul_left _ h0
      omega

/-- the whole part of X times 2^j, where 2^1074 is one -/
def G (j X : Nat) : Nat := X * 2 ^ j / 2 ^ 1074
theorem G_succ (j q : Nat) : G (j + 1) q = G j (2 * q) := by unfold G; rw [Nat.pow_succ]; congr 1; ac_rfl
theorem G_low (j c q : Nat) (hj : j < 1074) (hc : c ≤ 1) : G j (c + 2 * q) = G j (2 * q) := by
  have hp : 0 < 2 ^ j := Nat.pow_pos (by omega)
  have e : ∀ X, G j X = X / 2 / 2 ^ (1073 - j) := by
    intro X
    unfold G
    rw [show 2 ^ 1074 = 2 ^ (1074 - j) * 2 ^ j by rw [← Nat.pow_add]; congr 1; omega, Nat.mul_div_mul_right _ _ hp, show 1074 - j = (1073 - j) + 1 by omega, Nat.pow_succ, Nat.mul_comm, Nat.div_div_eq_div_mul]
  rw [e, e, show (c + 2 * q) / 2 = q by omega, show 2 * q / 2 = q by omega]
theorem G_high (j X t : Nat) (hj : j = 1074 + t) : G j X = X * 2 ^ t := by
  subst hj
  unfold G
  rw [Nat.add_comm, Nat.pow_add, ← Nat.mul_assoc, Nat.mul_div_cancel _ (Nat.pow_pos (by omega))]
theorem G_add (j c q t : Nat) (hj : j = 1074 + t) (hc : c = 1) : G j (c + 2 * q) = G j (2 * q) + 2 ^ t := by
  rw [G_high j _ t hj, G_high j _ t hj, hc, Nat.add_mul]; omega
theorem G_fits (j q t : Nat) (hj : j = 1074 + t) (ht : t ≤ 63) (h : G j (2 * q) < 18446744073709551616) : G j (2 * q) + 2 ^ t < 18446744073709551616 := by
  rw [G_high j _ t hj] at *
  have e : 18446744073709551616 = 2 ^ (64 - t) * 2 ^ t := by rw [← Nat.pow_add, show 64 - t + t = 64 by omega]
  have hp : 0 < 2 ^ t := Nat.pow_pos (by omega)
  rw [e] at h ⊢
  have h1 := Nat.lt_of_mul_lt_mul_right h
  have h2 : 2 ^ (64 - t) = 2 * 2 ^ (63 - t) := by rw [← Nat.pow_succ']; congr 1; omega
  rw [show 2 * q * 2 ^ t + 2 ^ t = (2 * q + 1) * 2 ^ t by rw [Nat.add_mul]; omega]
  exact Nat.mul_lt_mul_of_pos_right (by omega) hp
theorem G_big (p : List Nat) (i E t : Nat) (hi : i < p.length) (hc : p[i] = 1) (hj : i + E = 1074 + t) (ht : 63 < t) : 18446744073709551616 ≤ G E (valL p) := by
  have h1 := valL_split p i (by omega)
  rw [valL_drop p i hi, hc] at h1
  have h2 : 2 ^ i * 1 ≤ 2 ^ i * (1 + 2 * valL (p.drop (i + 1))) := Nat.mul_le_mul_left _ (by omega)
  have h3 : 2 ^ i * 2 ^ E ≤ valL p * 2 ^ E := Nat.mul_le_mul_right _ (by omega)
  have h4 : G E (2 ^ i) ≤ G E (valL p) := Nat.div_le_div_right h3
  have h5 : G E (2 ^ i) = 2 ^ t := by
    unfold G
    rw [← Nat.pow_add, hj, Nat.pow_add, Nat.mul_div_cancel_left _ (Nat.pow_pos (by omega))]
  have h6 : 2 ^ 64 ≤ 2 ^ t := Nat.pow_le_pow_right (by omega) ht
  rw [pow64] at h6
  omega
theorem G_due (n x E : Nat) (hx : x < 18446744073709551616) (he : prE x = (E : Int) - 1074) : G E (n * prM x) = n * valV x / 2 ^ 1074 := by
  unfold G
  by_cases h5 : clsN x = 5
  · obtain ⟨h0, h1⟩ := cls5 hx h5
    obtain ⟨a, b, c⟩ := mant_rng h0 h1
    obtain ⟨d, e, f⟩ := tzF_spec 64 (mantN x) a (by omega)
    unfold prE at he
    unfold prM valV
    rw [if_pos h5] at *
    rw [if_pos h5]
    generalize tzF 64 (mantN x) = t at *
    generalize mantN x / 2 ^ t = m at *
    rw [f, show n * (2 ^ t * m * 2 ^ plN x) = n * m * 2 ^ (t + plN x) by rw [Nat.pow_add]; ac_rfl, show t + plN x = E by omega]
  · have hm : prM x = 0 := if_neg h5
    have hv : valV x = 0 := if_neg h5
    rw [hm, hv]; simp
end Go.Proofs.YtkbjnlbbfapgdaaDoor
