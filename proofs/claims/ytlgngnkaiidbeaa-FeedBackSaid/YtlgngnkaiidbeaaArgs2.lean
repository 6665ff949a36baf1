/- Arguments that came in: slices of whatever elements; bytes among cells. -/
import Derived.Test.YtlgngnkaiidbeaaArgs
import Derived.Test.YtlgngnkaiidbeaaMemV
import Derived.Deep.Slices
set_option maxRecDepth 100000
set_option linter.unusedVariables false
set_option linter.unusedSimpArgs false
namespace Go.Proofs.Ytlgngnkaiidbeaa
open Go.RowKit Go.ChangeShapes Go.WideShapes Go.ChangeAt Go.Deep

section
variable {H : Type} {enc : TypeId × Value → H} {w : World} {b0 : Nat} {t e : TypeId} {k : IntKind} {n : Nat} {cs : List Value} {x : DataW H × List MemPlace}
/-- cells that read as bytes -/
theorem cells_bytes (ht : Try.prog.underlying t = some (.slice e)) (he : Try.prog.underlying e = some (.int .u8)) (hc : Try.prog.cellsOf e = 1)
    (h : DataW.trod enc Try.prog w 0 (fun _ => true) true n t cs = some x) :
    ∃ (A : Option Addr) (c : Nat) (bs : List UInt8), cs = [.slice A bs.length c] ∧ RdB w A bs ∧ bs.length ≤ c ∧ c ≤ 9223372036854775807 := by
  rcases open_ints ht he hc h with ⟨hcs, _⟩ | ⟨y, l, c, zs, hcs, _, hl, hm, hz, _, hcell, hwz⟩
  · exact ⟨none, 0, [], hcs, RdB.nil, Nat.le_refl _, by omega⟩
  · have hr : IsRowOf .u8 w (some y) l c zs := .inr ⟨y, rfl, hl, hm, by simpa using hz, hcell, hwz⟩
    obtain ⟨bs, rfl, h1, h2, h3⟩ := row_bytes hr
    exact ⟨some y, c, bs, hcs, h1, h2, h3⟩
/-- a slice that came in: its elements, cell by cell -/
theorem arg_slice {v : Value} {d : DataW H} {p : List MemPlace} (ht : Try.prog.underlying t = some (.slice e)) (o : Value.okWide Try.prog w .any b0 t v) (h : DataW.Trod enc Try.prog w 0 (fun _ => true) true t v d p) :
    ∃ a len cap, v = .slice a len cap ∧ len ≤ cap ∧ cap ≤ 9223372036854775807 ∧ ∀ i, i < len → ∃ ad cs' m x', a = some ad ∧ w.cells? 0 (ad.add (i * Try.prog.cellsOf e)) (Try.prog.cellsOf e) = some cs' ∧ DataW.trod enc Try.prog w 0 (fun _ => true) true m e cs' = some x' := by
  obtain ⟨a0, len0, cap0, rfl⟩ := okWide_slice ht o
  obtain ⟨fuel, hf⟩ := h
  rcases open_slice ht hf with ⟨hcs, _⟩ | ⟨ad, len, cap, m, n, D, Pl, hcs, _, hl, hm, hmm, _, hx⟩
  · simp [Value.cells] at hcs
    obtain ⟨rfl, rfl, rfl⟩ := hcs
    exact ⟨none, 0, 0, rfl, Nat.le_refl _, by omega, fun i hi => by omega⟩
  · simp [Value.cells] at hcs
    obtain ⟨rfl, rfl, rfl⟩ := hcs
    refine ⟨some ad, len0, cap0, rfl, hl, by unfold maxLen at hm; omega, fun i hi => ?_⟩
    obtain ⟨cs', h1, h2⟩ := hx i (by rw [hmm]; simp; omega)
    exact ⟨ad, cs', n, _, rfl, h1, h2⟩
end

/-- lists of bytes that came in -/
theorem arg_lists {H : Type} {enc : TypeId × Value → H} {w : World} {b0 : Nat} {v : Value} {d : DataW H} {p : List MemPlace} (h1 : Try.prog.cellsOf 5 = 1) (h2 : Try.prog.cellsOf 27 = 1)
    (o : Value.okWide Try.prog w .any b0 162 v) (h : DataW.Trod enc Try.prog w 0 (fun _ => true) true 162 v d p) :
    ∃ a cap, ∃ bss : List (List UInt8), ∃ vs : List Value, v = .slice a bss.length cap ∧ Rd w a vs ∧ EL w vs bss ∧ bss.length ≤ cap ∧ cap ≤ 9223372036854775807 := by
  obtain ⟨a, len, cap, rfl, hl, hc, hx⟩ := arg_slice Try.underlying162 o h
  rw [h2] at hx
  obtain ⟨f, hf⟩ := choose_lt (α := Option Addr × Nat × List UInt8) (n := len) (p := fun i y => ∃ ad, a = some ad ∧ w.cell? (ad.add i) = some (.slice y.1 y.2.2.length y.2.1) ∧ RdB w y.1 y.2.2 ∧ y.2.2.length ≤ y.2.1 ∧ y.2.1 ≤ 9223372036854775807) (fun i hi => by
    obtain ⟨ad, cs', m, x', ha, hcs, ht⟩ := hx i hi
    rw [Nat.mul_one] at hcs
    obtain ⟨A, c, bs, rfl, r1, r2, r3⟩ := cells_bytes Try.underlying27 Try.underlying5 h1 ht
    exact ⟨(A, c, bs), ad, ha, cell_of_cells?_one hcs, r1, r2, r3⟩)
  refine ⟨a, cap, (List.range len).map (fun i => (f i).2.2), (List.range len).map (fun i => .slice (f i).1 (f i).2.2.length (f i).2.1), by simp, ?_, ⟨by simp, ?_⟩, by simpa using hl, hc⟩
  · intro j u hu
    rw [List.getElem?_map] at hu
    have hj : j < len := by
      rcases Nat.lt_or_ge j len with h | h
      · exact h
      · rw [List.getElem?_eq_none (by simpa using h)] at hu; cases hu
    rw [List.getElem?_eq_getElem (by simpa using hj)] at hu
    simp at hu
    subst hu
    obtain ⟨ad, ha, hc, _⟩ := hf j hj
    exact ⟨ad, ha, hc⟩
  · intro i v bs hv hb
    have hj : i < len := by
      rcases Nat.lt_or_ge i len with h | h
      · exact h
      · rw [List.getElem?_eq_none (by simpa using h)] at hv; cases hv
    rw [List.getElem?_eq_getElem (by simpa using hj)] at hv hb
    simp at hv hb
    subst hv hb
    obtain ⟨_, _, _, r1, r2, r3⟩ := hf i hj
    exact ⟨_, _, rfl, r1, r2, r3⟩
end Go.Proofs.Ytlgngnkaiidbeaa
