/- Plain facts on the sum: it is linear, and no change of up to four bytes in a row is passed over. Nothing of the program. -/
import Derived.Test.YtjbejaieihchmaaPlain
import Derived.Test.YtjbejaieihchmaaPlainCrc
namespace Go.Proofs.Ytjbejaieihchmaa

theorem xhalf (a b : Nat) : (a ^^^ b) / 2 = a / 2 ^^^ b / 2 := by
  have := Nat.shiftRight_xor_distrib (a := a) (b := b) (i := 1)
  simpa [Nat.shiftRight_eq_div_pow] using this
theorem xodd (a b : Nat) : (a ^^^ b) % 2 = 1 ↔ ¬ (a % 2 = 1 ↔ b % 2 = 1) := by rw [Nat.xor_mod_two_eq_one]

theorem crcBit_xor (a b : Nat) : crcBit (a ^^^ b) = crcBit a ^^^ crcBit b := by
  unfold crcBit
  rw [xhalf]
  by_cases ha : a % 2 = 1 <;> by_cases hb : b % 2 = 1
  · rw [if_neg (by rw [xodd]; simp [ha, hb]), if_pos ha, if_pos hb]
    rw [Nat.xor_assoc, Nat.xor_comm (b / 2), ← Nat.xor_assoc 2197175160, Nat.xor_self, Nat.zero_xor]
  · rw [if_pos (by rw [xodd]; simp [ha, hb]), if_pos ha, if_neg hb, Nat.xor_assoc, Nat.xor_comm (b / 2), ← Nat.xor_assoc]
  · rw [if_pos (by rw [xodd]; simp [ha, hb]), if_neg ha, if_pos hb, Nat.xor_assoc]
  · rw [if_neg (by rw [xodd]; simp [ha, hb]), if_neg ha, if_neg hb]
theorem crcBits_xor (k a b : Nat) : crcBits k (a ^^^ b) = crcBits k a ^^^ crcBits k b := by
  induction k generalizing a b with
  | zero => rfl
  | succ k ih => rw [crcBits, crcBits, crcBits, crcBit_xor, ih]
theorem crcBits_add (j k r : Nat) : crcBits (j + k) r = crcBits k (crcBits j r) := by
  induction j generalizing r with
  | zero => rw [Nat.zero_add]; rfl
  | succ j ih => rw [Nat.succ_add, crcBits, ih, crcBits]
theorem crcBit_even (z : Nat) : crcBit (z * 2) = z := by
  unfold crcBit
  rw [if_neg (by omega)]; omega
theorem crcBits_shift (k z : Nat) : crcBits k (z * 2 ^ k) = z := by
  induction k generalizing z with
  | zero => simp [crcBits]
  | succ k ih =>
    rw [crcBits, Nat.pow_succ, ← Nat.mul_assoc, crcBit_even, ih]
theorem crcBits_zero (k : Nat) : crcBits k 0 = 0 := by
  have := crcBits_shift k 0
  simpa using this
theorem crcBit_ne {a : Nat} (ha : a < 4294967296) (h : crcBit a = 0) : a = 0 := by
  unfold crcBit at h
  split at h
  · have h2 : a / 2 = 2197175160 := by
      have := congrArg (· ^^^ 2197175160) h
      simpa [Nat.xor_assoc] using this
    omega
  · omega
theorem crcBits_ne {k a : Nat} (ha : a < 4294967296) (h : crcBits k a = 0) : a = 0 := by
  induction k generalizing a with
  | zero => exact h
  | succ k ih => exact crcBit_ne ha (ih (crcBit_lt ha) h)

theorem xor_low {b z : Nat} (hb : b < 256) : b + 256 * z = b ^^^ (z * 2 ^ 8) := by
  have h := Nat.two_pow_add_eq_or_of_lt (i := 8) (b := b) (by simpa using hb) z
  rw [show b + 256 * z = 2 ^ 8 * z + b from by omega, h]
  apply Nat.eq_of_testBit_eq
  intro i
  rw [Nat.testBit_or, Nat.testBit_xor, Nat.mul_comm z]
  by_cases hi : i < 8
  · have : (2 ^ 8 * z).testBit i = false := by
      rw [Nat.testBit_two_pow_mul]; simp; omega
    rw [this]; simp
  · have : b.testBit i = false := Nat.testBit_lt_two_pow (Nat.lt_of_lt_of_le (by simpa using hb) (Nat.pow_le_pow_right (n := 2) (i := 8) (by omega) (by omega)))
    rw [this]; simp

theorem crcReg_eq (r : Nat) (bs : List UInt8) : crcReg r bs = crcBits (8 * bs.length) (r ^^^ leN bs) := by
  induction bs generalizing r with
  | nil => simp [crcReg, crcBits, leN]
  | cons b l ih =>
    have hstep : crcReg r (b :: l) = crcReg (crcBits 8 (r ^^^ b.toNat)) l := rfl
    rw [hstep, ih, List.length_cons, Nat.mul_add, Nat.add_comm, Nat.mul_one, crcBits_add, leN, xor_low b.toNat_lt, ← Nat.xor_assoc, show crcBits 8 (r ^^^ b.toNat ^^^ leN l * 2 ^ 8) = crcBits 8 (r ^^^ b.toNat) ^^^ leN l from by rw [crcBits_xor, crcBits_shift]]

theorem xor4 (x y p q : Nat) : (x ^^^ y) ^^^ (p ^^^ q) = (x ^^^ p) ^^^ (y ^^^ q) := by
  rw [Nat.xor_assoc, Nat.xor_assoc, ← Nat.xor_assoc y, Nat.xor_comm y p, Nat.xor_assoc p]
theorem leN_zip (a b : List UInt8) (h : a.length = b.length) : leN (List.zipWith (· ^^^ ·) a b) = leN a ^^^ leN b := by
  induction a generalizing b with
  | nil => cases b with
    | nil => rfl
    | cons y l => simp at h
  | cons x l ih => cases b with
    | nil => simp at h
    | cons y m =>
      rw [List.zipWith_cons_cons, leN, leN, leN, ih m (by simpa using h), UInt8.toNat_xor]
      have hx : x.toNat < 256 := x.toNat_lt
      have hy : y.toNat < 256 := y.toNat_lt
      have hxy : x.toNat ^^^ y.toNat < 256 := Nat.xor_lt_two_pow (n := 8) hx hy
      generalize x.toNat = x at *
      generalize y.toNat = y at *
      have e1 := xor_low (z := leN l) hx
      have e2 := xor_low (z := leN m) hy
      have e3 := xor_low (z := leN l ^^^ leN m) hxy
      have hm : (leN l ^^^ leN m) * 2 ^ 8 = leN l * 2 ^ 8 ^^^ leN m * 2 ^ 8 := by
        rw [← Nat.shiftLeft_eq, ← Nat.shiftLeft_eq, ← Nat.shiftLeft_eq, Nat.shiftLeft_xor_distrib]
      rw [hm] at e3
      refine e3.trans (Eq.trans ?_ (congr (congrArg HXor.hXor e1) e2).symm)
      exact xor4 x y (leN l * 2 ^ 8) (leN m * 2 ^ 8)

/-- b is sealed bytes -/
def isSeal (b : List UInt8) : Prop := 4 ≤ b.length ∧ leN (b.drop (b.length - 4)) = crcSum (b.take (b.length - 4))
instance (b : List UInt8) : Decidable (isSeal b) := inferInstanceAs (Decidable (_ ∧ _))

theorem xor_not32 (s : Nat) (hs : s < 4294967296) : s ^^^ (4294967295 - s) = 4294967295 := by
  have h1 : 4294967295 ^^^ s = 4294967295 - s := by
    have h : (BitVec.allOnes 32 ^^^ BitVec.ofNat 32 s).toNat = (~~~ (BitVec.ofNat 32 s)).toNat := by rw [BitVec.allOnes_xor]
    rw [BitVec.toNat_xor, BitVec.toNat_not, BitVec.toNat_allOnes, BitVec.toNat_ofNat, Nat.mod_eq_of_lt (by simpa using hs)] at h
    exact h
  rw [← h1, Nat.xor_comm 4294967295, ← Nat.xor_assoc, Nat.xor_self, Nat.zero_xor]

theorem seal_residue {b : List UInt8} (h : isSeal b) : crcReg 4294967295 b = crcBits 32 4294967295 := by
  obtain ⟨h4, he⟩ := h
  have hb : b = b.take (b.length - 4) ++ b.drop (b.length - 4) := (List.take_append_drop _ _).symm
  have hr := crcReg_lt (r := 4294967295) (b.take (b.length - 4)) (by omega)
  have hs : crcSum (b.take (b.length - 4)) = 4294967295 - crcReg 4294967295 (b.take (b.length - 4)) := rfl
  have hl : (b.drop (b.length - 4)).length = 4 := by simp; omega
  rw [hs] at he
  generalize hm : b.take (b.length - 4) = m at *
  generalize hc : b.drop (b.length - 4) = c at *
  rw [hb, crcReg_append, crcReg_eq _ c, hl, he, xor_not32 _ hr]

theorem leN_zeros (n : Nat) (l : List UInt8) : leN (List.replicate n 0 ++ l) = leN l * 2 ^ (8 * n) := by
  induction n with
  | zero => simp
  | succ n ih =>
    rw [List.replicate_succ, List.cons_append, leN, ih, Nat.mul_add, Nat.mul_one, Nat.pow_add, ← Nat.mul_assoc, Nat.mul_comm 256]
    simp
    rw [Nat.mul_assoc, Nat.mul_comm 256]
theorem leN_zero_tail (n : Nat) : leN (List.replicate n 0) = 0 := by
  induction n with
  | zero => rfl
  | succ n ih => rw [List.replicate_succ, leN, ih]; rfl
theorem leN_zero_iff (l : List UInt8) (h : leN l = 0) : ∀ x ∈ l, x = 0 := by
  induction l with
  | nil => simp
  | cons b l ih =>
    rw [leN] at h
    intro x hx
    rcases List.mem_cons.1 hx with rfl | hx
    · apply UInt8.toNat.inj; simp; omega
    · exact ih (by omega) x hx

/-- four bytes in a row that are others: it is none any more -/
theorem spoilt_no {s s' x : List UInt8} {at_ : Nat} (hs : isSeal s) (hx : x.length = 4) (hat : at_ + 4 ≤ s.length)
    (he : s' = List.zipWith (· ^^^ ·) s (List.replicate at_ 0 ++ (x ++ List.replicate (s.length - at_ - 4) 0))) (hne : ∃ y ∈ x, y ≠ 0) : ¬ isSeal s' := by
  intro hs'
  have hel : (List.replicate at_ 0 ++ (x ++ List.replicate (s.length - at_ - 4) 0) : List UInt8).length = s.length := by simp; omega
  have hl : s'.length = s.length := by rw [he, List.length_zipWith, hel]; omega
  have r1 := seal_residue hs
  have r2 := seal_residue hs'
  rw [crcReg_eq] at r1 r2
  rw [hl, he, leN_zip _ _ hel.symm, ← Nat.xor_assoc, crcBits_xor, r1] at r2
  have r3 : crcBits (8 * s.length) (leN (List.replicate at_ 0 ++ (x ++ List.replicate (s.length - at_ - 4) 0))) = 0 := by
    have := congrArg (crcBits 32 4294967295 ^^^ ·) r2
    simp only [← Nat.xor_assoc, Nat.xor_self, Nat.zero_xor] at this
    exact this
  rw [leN_zeros, leN_append, leN_zero_tail, Nat.mul_zero, Nat.add_zero, show 8 * s.length = 8 * at_ + (8 * (s.length - at_)) from by omega, crcBits_add, crcBits_shift] at r3
  have hlt : leN x < 4294967296 := by have := leN_lt x; rw [hx] at this; exact this
  have := crcBits_ne hlt r3
  obtain ⟨y, hy, hyne⟩ := hne
  exact hyne (leN_zero_iff x this y hy)
end Go.Proofs.Ytjbejaieihchmaa
