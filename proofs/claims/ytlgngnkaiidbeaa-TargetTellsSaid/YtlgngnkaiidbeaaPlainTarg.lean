/- Pages and their places: plain lists. -/
import Init
set_option linter.unusedVariables false
set_option linter.unusedSimpArgs false
namespace Go.Proofs.Ytlgngnkaiidbeaa

/-- the first place of a key, counted from i -/
def fN : List (Int × Int) → Int × Int → Nat → Option Nat
  | [], _, _ => none
  | q :: l, k, i => if q = k then some i else fN l k (i + 1)
theorem fN_some {k : Int × Int} : ∀ {l : List (Int × Int)} {i j : Nat}, fN l k i = some j → i ≤ j ∧ j < i + l.length ∧ l[j - i]? = some k
  | [], i, j, h => by cases h
  | q :: l, i, j, h => by
    unfold fN at h
    by_cases hq : q = k
    · rw [if_pos hq] at h; injection h with h; subst h; subst hq; simp
    · rw [if_neg hq] at h
      obtain ⟨h1, h2, h3⟩ := fN_some h
      refine ⟨by omega, by simp only [List.length_cons]; omega, ?_⟩
      have e : j - i = (j - (i + 1)) + 1 := by omega
      rw [e, List.getElem?_cons_succ]; exact h3
theorem fN_snoc {k q : Int × Int} : ∀ {l : List (Int × Int)} {i : Nat}, fN (l ++ [q]) k i = match fN l k i with | some j => some j | none => if q = k then some (i + l.length) else none
  | [], i => by show fN [q] k i = _; unfold fN fN; rfl
  | p :: l, i => by
    show fN (p :: (l ++ [q])) k i = _
    unfold fN
    by_cases hp : p = k
    · rw [if_pos hp, if_pos hp]
    · rw [if_neg hp, if_neg hp, fN_snoc]
      have e : i + 1 + l.length = i + (p :: l).length := by simp only [List.length_cons]; omega
      rw [e]
theorem fN_none {k : Int × Int} : ∀ {l : List (Int × Int)} {i : Nat}, fN l k i = none ↔ k ∉ l
  | [], i => by simp [fN]
  | q :: l, i => by
    unfold fN
    by_cases hq : q = k
    · rw [if_pos hq]; simp [hq]
    · rw [if_neg hq, fN_none, List.mem_cons]
      constructor
      · rintro h (a | a)
        · exact hq a.symm
        · exact h a
      · exact fun h a => h (.inr a)
/-- the place, as the document tells it -/
def atZ (l : List (Int × Int)) (k : Int × Int) : Int := match fN l k 0 with | some j => (j : Int) | none => -1
theorem atZ_some {l : List (Int × Int)} {k : Int × Int} {j : Nat} (h : fN l k 0 = some j) : atZ l k = (j : Int) := by unfold atZ; rw [h]
theorem atZ_none {l : List (Int × Int)} {k : Int × Int} (h : fN l k 0 = none) : atZ l k = -1 := by unfold atZ; rw [h]
/-- the first place is the first -/
theorem fN_first {k : Int × Int} {l : List (Int × Int)} {j : Nat} (hj : j < l.length) (h1 : k ∉ l.take j) (h2 : l[j] = k) : fN l k 0 = some j := by
  have key : ∀ (l : List (Int × Int)) (i j : Nat) (hj : j < l.length), k ∉ l.take j → l[j] = k → fN l k i = some (i + j) := by
    intro l
    induction l with
    | nil => intro i j hj; simp at hj
    | cons q l ih =>
      intro i j hj h1 h2
      unfold fN
      cases j with
      | zero => rw [if_pos (by simpa using h2)]; rfl
      | succ j =>
        rw [List.take_succ_cons, List.mem_cons] at h1
        rw [if_neg (fun e => h1 (.inl e.symm)), ih (i + 1) j (by simpa using hj) (fun a => h1 (.inr a)) (by simpa using h2)]
        congr 1; omega
  have := key l 0 j hj h1 h2
  simpa using this
end Go.Proofs.Ytlgngnkaiidbeaa
