/- Pages that came in. -/
import Derived.Test.YtlgngnkaiidbeaaArgE2
import Derived.Test.YtlgngnkaiidbeaaTargE
set_option maxRecDepth 100000
set_option linter.unusedVariables false
set_option linter.unusedSimpArgs false
namespace Go.Proofs.Ytlgngnkaiidbeaa
open Go.RowKit Go.ChangeShapes Go.WideShapes Go.ChangeAt Go.Deep

theorem c_intP : Try.prog.cellsOf 3 = 1 := by kernel_rfl
theorem c_strP : Try.prog.cellsOf 9 = 1 := by kernel_rfl
theorem c_byteP : Try.prog.cellsOf 5 = 1 := by kernel_rfl
theorem c_bytesP : Try.prog.cellsOf 27 = 1 := by kernel_rfl
theorem c_pg : Try.prog.cellsOf 29 = 4 := by kernel_rfl
instance : Inhabited Pg := ⟨⟨(0, 0), ByteArray.empty, none, 0, []⟩⟩
/-- a page that came in -/
def PgA (w : World) (p : Pg) : Prop := RdB w p.A p.d ∧ p.d.length ≤ p.c ∧ p.c ≤ 9223372036854775807 ∧ p.t.size ≤ 9223372036854775807
theorem cells_pg {H : Type} {enc : TypeId × Value → H} {w : World} (m : Nat) (cs : List Value) (x : DataW H × List MemPlace) (hl : cs.length = 4) (h : DataW.trod enc Try.prog w 0 (fun _ => true) true m 29 cs = some x) : ∃ y : Pg, cs = y.cs ∧ PgA w y := by
  obtain ⟨xs, m, _, _, _, hxl, hx⟩ := DataW.trod_struct Try.underlying29 h
  have hxl' : xs.length = 4 := hxl
  match cs, hl with
  | [a0, a1, a2, a3], _ =>
    have g0 := hx 0 _ rfl
    have g1 := hx 1 _ rfl
    have g2 := hx 2 _ rfl
    have g3 := hx 3 _ rfl
    simp only [List.getElem_toArray, List.getElem_cons_zero, List.getElem_cons_succ, c_intP, c_strP, c_bytesP, List.drop_zero, List.drop_succ_cons, List.take_succ_cons, List.take_zero] at g0 g1 g2 g3
    rw [List.getElem?_eq_getElem (by omega)] at g0 g1 g2 g3
    obtain ⟨z0, e0, _, w0⟩ := DataW.trod_int Try.underlying3 g0
    obtain ⟨z1, e1, _, w1⟩ := DataW.trod_int Try.underlying3 g1
    obtain ⟨ten, e2, _, w2⟩ := DataW.trod_string Try.underlying9 g2
    obtain ⟨A, c, d, e3, r1, r2, r3⟩ := cells_bytes Try.underlying27 Try.underlying5 c_byteP g3
    simp only [List.cons.injEq, and_true] at e0 e1 e2 e3
    subst e0 e1 e2 e3
    exact ⟨⟨(z0, z1), ten, A, c, d⟩, rfl, r1, r2, r3, by simpa [maxLen] using w2⟩
theorem arg_pg {H : Type} {enc : TypeId × Value → H} {w : World} {b0 : Nat} {v : Value} {d : DataW H} {p : List MemPlace} (o : Value.okWide Try.prog w .any b0 29 v) (h : DataW.Trod enc Try.prog w 0 (fun _ => true) true 29 v d p) :
    ∃ y : Pg, v = .agg #[.int .i64 y.k.1, .int .i64 y.k.2, .string y.t, .slice y.A y.d.length y.c] ∧ PgA w y := by
  obtain ⟨cs, rfl, hsz⟩ := okWide_struct Try.underlying29 o
  obtain ⟨fuel, hf⟩ := h
  obtain ⟨y, hcs, r⟩ := cells_pg _ _ _ (by have := hsz.trans c_pg; simpa [Value.cells] using this) hf
  refine ⟨y, ?_, r⟩
  congr 1
  apply Array.toList_inj.1
  simpa [Value.cells, Pg.cs] using hcs
theorem arg_pgs {H : Type} {enc : TypeId × Value → H} {w : World} {b0 : Nat} {v : Value} {d : DataW H} {p : List MemPlace} (o : Value.okWide Try.prog w .any b0 22 v) (h : DataW.Trod enc Try.prog w 0 (fun _ => true) true 22 v d p) :
    ∃ A c, ∃ xs : List Pg, v = .slice A xs.length c ∧ RdE Pg.cs w A xs ∧ (∀ y ∈ xs, PgA w y) ∧ xs.length ≤ c ∧ c ≤ 9223372036854775807 := by
  obtain ⟨a0, len0, cap0, rfl⟩ := okWide_slice Try.underlying22 o
  obtain ⟨fuel, hf⟩ := h
  obtain ⟨A, c, ys, e1, r1, r2, r3, r4, r5⟩ := cells_elems Pg.cs (PgA w) Pg.cs_len (by decide) Try.underlying22 c_pg cells_pg hf
  simp [Value.cells] at e1
  obtain ⟨rfl, rfl, rfl⟩ := e1
  exact ⟨a0, cap0, ys, rfl, r1, r2, r3, r4⟩
end Go.Proofs.Ytlgngnkaiidbeaa
