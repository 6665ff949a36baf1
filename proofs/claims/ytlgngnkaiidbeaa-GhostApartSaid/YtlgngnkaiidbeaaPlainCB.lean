/- The order of strings (lines of PlainLed and PlainLed2, laid by a program). -/
import Derived.Lib.Bytealg
set_option maxRecDepth 100000
set_option linter.unusedVariables false
set_option linter.unusedSimpArgs false
namespace Go.Proofs.Ytlgngnkaiidbeaa

abbrev cB := Lib.compareBytes
theorem cB_self (a : List UInt8) : cB a a = 0 := by
  induction a with
  | nil => rfl
  | cons x l ih => unfold cB at *; simp [Lib.compareBytes, ih, UInt8.lt_irrefl]
theorem cB_cases (a b : List UInt8) : cB a b = -1 ∨ cB a b = 0 ∨ cB a b = 1 := by
  induction a generalizing b with
  | nil => cases b <;> simp [cB, Lib.compareBytes]
  | cons x l ih =>
    cases b with
    | nil => simp [cB, Lib.compareBytes]
    | cons y m =>
      unfold cB at *
      simp only [Lib.compareBytes]
      split
      · exact .inl rfl
      · split
        · exact .inr (.inr rfl)
        · exact ih m
theorem cB_zero {a b : List UInt8} (h : cB a b = 0) : a = b := by
  induction a generalizing b with
  | nil => cases b with
    | nil => rfl
    | cons y m => simp [cB, Lib.compareBytes] at h
  | cons x l ih =>
    cases b with
    | nil => simp [cB, Lib.compareBytes] at h
    | cons y m =>
      unfold cB at *
      simp only [Lib.compareBytes] at h
      split at h
      · cases h
      · split at h
        · cases h
        · rename_i h1 h2
          have : x = y := by
            have e1 : ¬ x.toNat < y.toNat := h1
            have e2 : ¬ y.toNat < x.toNat := h2
            exact UInt8.toNat.inj (by omega)
          rw [this, ih h]
theorem cB_swap (a b : List UInt8) : cB a b = - cB b a := by
  induction a generalizing b with
  | nil => cases b <;> simp [cB, Lib.compareBytes]
  | cons x l ih =>
    cases b with
    | nil => simp [cB, Lib.compareBytes]
    | cons y m =>
      unfold cB at *
      simp only [Lib.compareBytes]
      by_cases h1 : x < y
      · have h2 : ¬ y < x := fun h => UInt8.lt_irrefl _ (UInt8.lt_trans h1 h)
        simp [h1, h2]
      · by_cases h2 : y < x
        · simp [h1, h2]
        · simp [h1, h2]; exact ih m
theorem cB_trans {a b c : List UInt8} (h1 : cB a b < 0) (h2 : cB b c < 0) : cB a c < 0 := by
  induction a generalizing b c with
  | nil =>
    cases c with
    | nil => cases b with
      | nil => simp [cB, Lib.compareBytes] at h1
      | cons y m => simp [cB, Lib.compareBytes] at h2
    | cons z n => simp [cB, Lib.compareBytes]
  | cons x l ih =>
    cases b with
    | nil => simp [cB, Lib.compareBytes] at h1
    | cons y m =>
      cases c with
      | nil => simp [cB, Lib.compareBytes] at h2
      | cons z n =>
        unfold cB at *
        simp only [Lib.compareBytes] at h1 h2 ⊢
        by_cases e1 : x < y
        · by_cases e2 : y < z
          · rw [if_pos (UInt8.lt_trans e1 e2)]; decide
          · rw [if_neg e2] at h2
            by_cases e3 : z < y
            · rw [if_pos e3] at h2; exact absurd h2 (by decide)
            · have : y = z := by
                have q1 : ¬ y.toNat < z.toNat := e2
                have q2 : ¬ z.toNat < y.toNat := e3
                exact UInt8.toNat.inj (by omega)
              subst this
              rw [if_pos e1]; decide
        · rw [if_neg e1] at h1
          by_cases e4 : y < x
          · rw [if_pos e4] at h1; exact absurd h1 (by decide)
          · rw [if_neg e4] at h1
            have : x = y := by
              have q1 : ¬ x.toNat < y.toNat := e1
              have q2 : ¬ y.toNat < x.toNat := e4
              exact UInt8.toNat.inj (by omega)
            subst this
            by_cases e2 : x < z
            · rw [if_pos e2]; decide
            · rw [if_neg e2] at h2 ⊢
              by_cases e3 : z < x
              · rw [if_pos e3] at h2; exact absurd h2 (by decide)
              · rw [if_neg e3] at h2 ⊢
                exact ih h1 h2

theorem less_cB (a b : List UInt8) : Op.bytesLess a b = decide (cB a b < 0) := by
  induction a generalizing b with
  | nil => cases b <;> simp [Op.bytesLess, cB, Lib.compareBytes]
  | cons x l ih =>
    cases b with
    | nil => simp [Op.bytesLess, cB, Lib.compareBytes]
    | cons y m =>
      have := ih m
      unfold cB at *
      simp only [Lib.compareBytes, Op.bytesLess, this]
      by_cases h1 : x < y
      · simp [h1]
      · by_cases h2 : y < x
        · have h3 : x ≠ y := fun e => UInt8.lt_irrefl _ (e ▸ h2)
          simp [h1, h2, h3]
        · have h3 : x = y := by
            have e1 : ¬ x.toNat < y.toNat := h1
            have e2 : ¬ y.toNat < x.toNat := h2
            exact UInt8.toNat.inj (by omega)
          subst h3
          simp [h1]
end Go.Proofs.Ytlgngnkaiidbeaa
