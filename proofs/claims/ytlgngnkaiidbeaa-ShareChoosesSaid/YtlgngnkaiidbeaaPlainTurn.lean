/- The order of turns is a strict order, and leaves no two different turns even. -/
import Derived.Test.YtlgngnkaiidbeaaShareD
import Derived.Sort.Statements
set_option linter.unusedVariables false
set_option linter.unusedSimpArgs false
namespace Go.Proofs.Ytlgngnkaiidbeaa

def cmpTn (x y : Tn) : Int := cmpT x.a x.b x.c y.a y.b y.c
theorem cmpI_cases (a b : Int) : (a < b ∧ Lib.compareInt a b = -1) ∨ (b < a ∧ Lib.compareInt a b = 1) ∨ (a = b ∧ Lib.compareInt a b = 0) := by
  unfold Lib.compareInt
  by_cases h : a < b
  · exact .inl ⟨h, by simp [h]⟩
  · by_cases k : b < a
    · exact .inr (.inl ⟨k, by simp [h, k]⟩)
    · exact .inr (.inr ⟨by omega, by simp [h, k]⟩)
theorem cmpTn_lt (x y : Tn) : cmpTn x y < 0 ↔ (x.a < y.a ∨ x.a = y.a ∧ (x.b < y.b ∨ x.b = y.b ∧ x.c < y.c)) := by
  unfold cmpTn cmpT orL
  rcases cmpI_cases x.a y.a with ⟨h, e⟩ | ⟨h, e⟩ | ⟨h, e⟩
  · rw [e, if_neg (by decide)]; omega
  · rw [e, if_neg (by decide)]; omega
  · rw [e, if_pos rfl]
    unfold orL
    rcases cmpI_cases x.b y.b with ⟨h2, e2⟩ | ⟨h2, e2⟩ | ⟨h2, e2⟩
    · rw [e2, if_neg (by decide)]; omega
    · rw [e2, if_neg (by decide)]; omega
    · rw [e2, if_pos rfl]
      unfold orL
      rcases cmpI_cases x.c y.c with ⟨h3, e3⟩ | ⟨h3, e3⟩ | ⟨h3, e3⟩
      · rw [e3, if_neg (by decide)]; omega
      · rw [e3, if_neg (by decide)]; omega
      · rw [e3, if_pos rfl]; simp only [orL]; omega
theorem cmpTn_swo : Sort.SWO (fun x y : Tn => decide (cmpTn x y < 0)) where
  irrefl x := by simp only [decide_eq_false_iff_not, cmpTn_lt]; omega
  trans x y z h1 h2 := by simp only [decide_eq_true_eq, cmpTn_lt] at *; omega
  ntrans x y z h1 h2 := by simp only [decide_eq_false_iff_not, cmpTn_lt] at *; omega
/-- neither before the other: the same turn -/
theorem cmpTn_eq (x y : Tn) (h1 : ¬ cmpTn x y < 0) (h2 : ¬ cmpTn y x < 0) : x = y := by
  rw [cmpTn_lt] at h1 h2
  cases x; cases y
  simp only at h1 h2
  simp only [Tn.mk.injEq]
  omega
end Go.Proofs.Ytlgngnkaiidbeaa
