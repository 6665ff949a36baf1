/- Tenants that came in. -/
import Derived.Test.YtlgngnkaiidbeaaDoorArgE2
import Derived.Test.YtlgngnkaiidbeaaDoorAuthA
set_option maxRecDepth 100000
set_option linter.unusedVariables false
set_option linter.unusedSimpArgs false
namespace Go.Proofs.YtlgngnkaiidbeaaDoor
open Go.RowKit Go.ChangeShapes Go.WideShapes Go.ChangeAt Go.Deep

theorem c_strT : Tryd.prog.cellsOf 9 = 1 := by kernel_rfl
theorem c_byteT : Tryd.prog.cellsOf 5 = 1 := by kernel_rfl
theorem c_bytesT : Tryd.prog.cellsOf 22 = 1 := by kernel_rfl
theorem c_te : Tryd.prog.cellsOf 24 = 2 := by kernel_rfl
instance : Inhabited Te := ⟨⟨ByteArray.empty, none, 0, []⟩⟩
/-- a tenant that came in -/
def TeA (w : World) (t : Te) : Prop := t.ok w ∧ t.n.size ≤ 9223372036854775807
theorem cells_te {H : Type} {enc : TypeId × Value → H} {w : World} (m : Nat) (cs : List Value) (x : DataW H × List MemPlace) (hl : cs.length = 2) (h : DataW.trod enc Tryd.prog w 0 (fun _ => true) true m 24 cs = some x) : ∃ y : Te, cs = y.cs ∧ TeA w y := by
  obtain ⟨xs, m, _, _, _, hxl, hx⟩ := DataW.trod_struct Tryd.underlying24 h
  have hxl' : xs.length = 2 := hxl
  match cs, hl with
  | [a0, a1], _ =>
    have g0 := hx 0 _ rfl
    have g1 := hx 1 _ rfl
    simp only [List.getElem_toArray, List.getElem_cons_zero, List.getElem_cons_succ, c_strT, c_bytesT, List.drop_zero, List.drop_succ_cons, List.take_succ_cons, List.take_zero] at g0 g1
    rw [List.getElem?_eq_getElem (by omega)] at g0 g1
    obtain ⟨ten, e0, _, w0⟩ := DataW.trod_string Tryd.underlying9 g0
    obtain ⟨A, c, d, e1, r1, r2, r3⟩ := cells_bytes Tryd.underlying22 Tryd.underlying5 c_byteT g1
    have hn : A = none → c = 0 := fun hA => by
      rcases open_slice Tryd.underlying22 g1 with ⟨hcs, _⟩ | ⟨ad, len, cap, m, n, D, Pl, hcs, _⟩
      · rw [e1] at hcs
        simp at hcs
        exact hcs.2.2
      · rw [e1] at hcs
        simp at hcs
        rw [hA] at hcs
        cases hcs.1
    simp only [List.cons.injEq, and_true] at e0 e1
    subst e0 e1
    exact ⟨⟨ten, A, c, d⟩, rfl, ⟨r1, r2, r3, hn⟩, by simpa [maxLen] using w0⟩
theorem arg_te {H : Type} {enc : TypeId × Value → H} {w : World} {b0 : Nat} {v : Value} {d : DataW H} {p : List MemPlace} (o : Value.okWide Tryd.prog w .any b0 24 v) (h : DataW.Trod enc Tryd.prog w 0 (fun _ => true) true 24 v d p) :
    ∃ y : Te, v = .agg #[.string y.n, .slice y.A y.d.length y.c] ∧ TeA w y := by
  obtain ⟨cs, rfl, hsz⟩ := okWide_struct Tryd.underlying24 o
  obtain ⟨fuel, hf⟩ := h
  obtain ⟨y, hcs, r⟩ := cells_te _ _ _ (by have := hsz.trans c_te; simpa [Value.cells] using this) hf
  refine ⟨y, ?_, r⟩
  congr 1
  apply Array.toList_inj.1
  simpa [Value.cells, Te.cs] using hcs
theorem arg_tes {H : Type} {enc : TypeId × Value → H} {w : World} {b0 : Nat} {v : Value} {d : DataW H} {p : List MemPlace} (o : Value.okWide Tryd.prog w .any b0 25 v) (h : DataW.Trod enc Tryd.prog w 0 (fun _ => true) true 25 v d p) :
    ∃ A c, ∃ xs : List Te, v = .slice A xs.length c ∧ RdE Te.cs w A xs ∧ (∀ y ∈ xs, TeA w y) ∧ xs.length ≤ c ∧ c ≤ 9223372036854775807 := by
  obtain ⟨a0, len0, cap0, rfl⟩ := okWide_slice Tryd.underlying25 o
  obtain ⟨fuel, hf⟩ := h
  obtain ⟨A, c, ys, e1, r1, r2, r3, r4, r5⟩ := cells_elems Te.cs (TeA w) Te.cs_len (by decide) Tryd.underlying25 c_te cells_te hf
  simp [Value.cells] at e1
  obtain ⟨rfl, rfl, rfl⟩ := e1
  exact ⟨a0, cap0, ys, rfl, r1, r2, r3, r4⟩
end Go.Proofs.YtlgngnkaiidbeaaDoor
