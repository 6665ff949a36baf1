/- Slices of structs that came in (lines of ArgEl, for seats without turns). -/
import Derived.Test.YtlgngnkaiidbeaaArgs2
import Derived.Test.YtlgngnkaiidbeaaRdEl
set_option maxRecDepth 100000
set_option linter.unusedVariables false
set_option linter.unusedSimpArgs false
namespace Go.Proofs.Ytlgngnkaiidbeaa
open Go.RowKit Go.ChangeShapes Go.WideShapes Go.ChangeAt Go.Deep

section gen
variable {H : Type} {enc : TypeId × Value → H} {w : World}
theorem flat_rd {α : Type} {f : α → List Value} {k : Nat} (hk : ∀ x, (f x).length = k) (h0 : 0 < k) {A : Option Addr} {ys : List α} (h : ∀ i (hi : i < ys.length), ∃ ad, A = some ad ∧ ∀ r u, (f ys[i])[r]? = some u → w.cell? (ad.add (i * k + r)) = some u) : RdE f w A ys := by
  intro j u hu
  have hj : j < ys.length * k := by
    rcases Nat.lt_or_ge j (ys.length * k) with h | h
    · exact h
    · rw [List.getElem?_eq_none (by rw [flat_length hk]; exact h)] at hu; cases hu
  have hi : j / k < ys.length := Nat.div_lt_of_lt_mul (by rwa [Nat.mul_comm])
  have hr : j % k < k := Nat.mod_lt _ h0
  have hjj : j / k * k + j % k = j := by rw [Nat.mul_comm]; exact Nat.div_add_mod j k
  rw [← hjj, flat_get hk ys _ _ hi hr] at hu
  obtain ⟨ad, ha, hc⟩ := h _ hi
  exact ⟨ad, ha, by rw [← hjj]; exact hc _ _ hu⟩
/-- a slice of elements of several cells, among cells -/
theorem cells_elems {α : Type} [Inhabited α] (f : α → List Value) (ok : α → Prop) {t e : TypeId} {k n : Nat} {cs : List Value} {x : DataW H × List MemPlace} (hk : ∀ x, (f x).length = k) (h0 : 0 < k) (ht : Try.prog.underlying t = some (.slice e)) (hc : Try.prog.cellsOf e = k)
    (he : ∀ m cs x, cs.length = k → DataW.trod enc Try.prog w 0 (fun _ => true) true m e cs = some x → ∃ y, cs = f y ∧ ok y)
    (h : DataW.trod enc Try.prog w 0 (fun _ => true) true n t cs = some x) :
    ∃ A c, ∃ ys : List α, cs = [.slice A ys.length c] ∧ RdE f w A ys ∧ (∀ y ∈ ys, ok y) ∧ ys.length ≤ c ∧ c ≤ 9223372036854775807 ∧ (A = none → c = 0) := by
  rcases open_slice ht h with ⟨hcs, _⟩ | ⟨ad, len, cap, m, n, D, Pl, hcs, _, hl, hm, hmm, _, hx⟩
  · exact ⟨none, 0, [], by simpa using hcs, RdE.nil, by simp, Nat.le_refl _, by omega, fun _ => rfl⟩
  · rw [hc] at hx
    obtain ⟨g, hg⟩ := choose_lt (α := α) (n := len) (p := fun i y => ok y ∧ ∀ r u, (f y)[r]? = some u → w.cell? (ad.add (i * k + r)) = some u) (fun i hi => by
      obtain ⟨cs', h1, h2⟩ := hx i (by rw [hmm]; simp; omega)
      obtain ⟨_, hcl, hcc⟩ := World.cells?_some h1
      obtain ⟨y, rfl, hy⟩ := he _ _ _ hcl h2
      refine ⟨y, hy, fun r u hu => ?_⟩
      have hr : r < k := by
        rcases Nat.lt_or_ge r k with h | h
        · exact h
        · rw [List.getElem?_eq_none (by rw [hk]; exact h)] at hu; cases hu
      have := hcc r hr
      rw [Proofs.Ytlgngnkaiidbeaa.add_add] at this
      rw [this, hu])
    refine ⟨some ad, cap, (List.range len).map g, by simpa using hcs, flat_rd hk h0 (fun i hi => ⟨ad, rfl, ?_⟩), ?_, by simpa using hl, by unfold maxLen at hm; omega, fun h => by cases h⟩
    · simp only [List.length_map, List.length_range] at hi
      intro r u hu
      simp only [List.getElem_map, List.getElem_range] at hu
      exact (hg i hi).2 r u hu
    · intro y hy
      obtain ⟨i, hi, rfl⟩ := List.mem_map.1 hy
      exact (hg i (List.mem_range.1 hi)).1
end gen
end Go.Proofs.Ytlgngnkaiidbeaa
