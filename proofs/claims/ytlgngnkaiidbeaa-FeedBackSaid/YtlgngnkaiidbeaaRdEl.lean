/- Rows of elements of several cells (lines of ShareD, for seats without turns). -/
import Derived.Test.YtlgngnkaiidbeaaMemV
import Derived.Test.YtlgngnkaiidbeaaArr
set_option maxRecDepth 100000
set_option linter.unusedVariables false
set_option linter.unusedSimpArgs false
namespace Go.Proofs.Ytlgngnkaiidbeaa
open Go.RowKit

/-- elements of several cells each -/
def RdE {α : Type} (cs : α → List Value) (w : World) (A : Option Addr) (xs : List α) : Prop := Rd w A (xs.flatMap cs)
section rde
variable {α : Type} {cs : α → List Value} {w w1 : World} {A : Option Addr} {xs : List α} {k : Nat}
theorem flat_get (hk : ∀ x, (cs x).length = k) (xs : List α) (i j : Nat) (hi : i < xs.length) (hj : j < k) : (xs.flatMap cs)[i * k + j]? = (cs xs[i])[j]? := by
  induction xs generalizing i with
  | nil => simp at hi
  | cons a l ih =>
    rw [List.flatMap_cons]
    cases i with
    | zero => rw [Nat.zero_mul, Nat.zero_add, List.getElem?_append_left (by rw [hk]; exact hj)]; rfl
    | succ i =>
      rw [List.getElem?_append_right (by rw [hk, Nat.succ_mul]; omega), hk, show (i + 1) * k + j - k = i * k + j by rw [Nat.succ_mul]; omega]
      exact ih i (by simpa using hi)
theorem flat_length (hk : ∀ x, (cs x).length = k) (xs : List α) : (xs.flatMap cs).length = xs.length * k := by
  induction xs with
  | nil => simp
  | cons a l ih => rw [List.flatMap_cons, List.length_append, ih, hk, List.length_cons, Nat.succ_mul]; omega
theorem RdE.nil : RdE cs w A [] := Rd.nil
theorem RdE.ext (h : RdE cs w A xs) (he : Ext w w1) : RdE cs w1 A xs := Rd.ext h he
theorem RdE.at_ (hk : ∀ x, (cs x).length = k) (h : RdE cs w A xs) {i : Nat} (hi : i < xs.length) (hk0 : 0 < k) : ∃ ad, A = some ad ∧ ∀ j v, (cs xs[i])[j]? = some v → w.cell? ((ad.add (i * k)).add j) = some v := by
  have key : ∀ j v, (cs xs[i])[j]? = some v → ∃ ad, A = some ad ∧ w.cell? (ad.add (i * k + j)) = some v := by
    intro j v hv
    have hj : j < k := by
      rcases Nat.lt_or_ge j k with h | h
      · exact h
      · rw [List.getElem?_eq_none (by rw [hk]; exact h)] at hv; cases hv
    exact h (i * k + j) v (by rw [flat_get hk xs i j hi hj]; exact hv)
  have h0 : 0 < (cs xs[i]).length := by rw [hk]; exact hk0
  obtain ⟨v, hv⟩ : ∃ v, (cs xs[i])[0]? = some v := ⟨_, List.getElem?_eq_getElem h0⟩
  obtain ⟨ad, ha, _⟩ := key 0 v hv
  refine ⟨ad, ha, fun j u hu => ?_⟩
  obtain ⟨ad', ha', hc⟩ := key j u hu
  rw [ha] at ha'
  cases ha'
  rw [add_add]
  exact hc
theorem RdE.grown {row : Option Nat} (h : RdE cs w A xs) (hg : w.grownBy w1 row) (hr : ∀ ad, A = some ad → some ad.block ≠ row) : RdE cs w1 A xs := Rd.grown h hg hr
end rde
/-- an address, one further -/
theorem add_off (ad : Addr) (j : Nat) (hj : j ≠ 0) : ad.add j = ⟨ad.block, ad.off + j, none⟩ := by unfold Addr.add; rw [if_neg hj]

theorem OwnV.empty (w : World) (e : TypeId) (size : Nat) : OwnV (w.alloc (.cells #[] e)) w.heap.size e size (some ⟨w.heap.size, 0, none⟩) 0 0 [] :=
  ⟨by simp, .inr ⟨w.heap.size, 0, #[], rfl, Nat.le_refl _, heap_alloc_new w _, Nat.le_refl _, by simp [maxLen], by simp, by simp⟩⟩
end Go.Proofs.Ytlgngnkaiidbeaa
