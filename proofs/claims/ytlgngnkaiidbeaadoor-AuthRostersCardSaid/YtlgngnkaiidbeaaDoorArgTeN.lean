/- Bytes that came in: nil has no room. -/
import Derived.Test.YtlgngnkaiidbeaaDoorArgTe
set_option maxRecDepth 100000
set_option linter.unusedVariables false
set_option linter.unusedSimpArgs false
namespace Go.Proofs.YtlgngnkaiidbeaaDoor
open Go.RowKit Go.ChangeShapes Go.WideShapes Go.ChangeAt Go.Deep

theorem arg_bytesN {H : Type} {enc : TypeId × Value → H} {w : World} {b0 : Nat} {v : Value} {d : DataW H} {p : List MemPlace} (o : Value.okWide Tryd.prog w .any b0 22 v) (h : DataW.Trod enc Tryd.prog w 0 (fun _ => true) true 22 v d p) :
    ∃ A c, ∃ bs : List UInt8, v = .slice A bs.length c ∧ RdB w A bs ∧ bs.length ≤ c ∧ c ≤ 9223372036854775807 ∧ (A = none → c = 0) := by
  obtain ⟨a0, len0, cap0, rfl⟩ := okWide_slice Tryd.underlying22 o
  obtain ⟨fuel, hf⟩ := h
  obtain ⟨A, c, bs, e1, r1, r2, r3⟩ := cells_bytes Tryd.underlying22 Tryd.underlying5 c_byteT hf
  have hn : A = none → c = 0 := fun hA => by
    rcases open_slice Tryd.underlying22 hf with ⟨hcs, _⟩ | ⟨ad, len, cap, m, n, D, Pl, hcs, _⟩
    · rw [e1] at hcs
      simp at hcs
      exact hcs.2.2
    · rw [e1] at hcs
      simp at hcs
      rw [hA] at hcs
      cases hcs.1
  simp [Value.cells] at e1
  obtain ⟨rfl, rfl, rfl⟩ := e1
  exact ⟨a0, cap0, bs, rfl, r1, r2, r3, hn⟩
theorem arg_strN {H : Type} {enc : TypeId × Value → H} {w : World} {b0 : Nat} {v : Value} {d : DataW H} {p : List MemPlace} (o : Value.okWide Tryd.prog w .any b0 9 v) (h : DataW.Trod enc Tryd.prog w 0 (fun _ => true) true 9 v d p) : ∃ s, v = .string s ∧ s.size ≤ 9223372036854775807 := by
  obtain ⟨s, rfl⟩ := okWide_string Tryd.underlying9 o
  obtain ⟨fuel, hf⟩ := h
  obtain ⟨ten, e0, _, w0⟩ := DataW.trod_string Tryd.underlying9 hf
  simp [Value.cells] at e0
  subst e0
  exact ⟨s, rfl, by simpa [maxLen] using w0⟩
end Go.Proofs.YtlgngnkaiidbeaaDoor
