/- Ghosts and steps that came in. -/
import Derived.Test.YtlgngnkaiidbeaaArgs
import Derived.Test.YtlgngnkaiidbeaaArgE2
import Derived.Test.YtlgngnkaiidbeaaGhostG
set_option maxRecDepth 100000
set_option linter.unusedVariables false
set_option linter.unusedSimpArgs false
namespace Go.Proofs.Ytlgngnkaiidbeaa
open Go.RowKit Go.ChangeShapes Go.WideShapes Go.ChangeAt Go.Deep

theorem c_strG : Try.prog.cellsOf 9 = 1 := by kernel_rfl
theorem c_u64G : Try.prog.cellsOf 26 = 1 := by kernel_rfl
theorem c_intG : Try.prog.cellsOf 3 = 1 := by kernel_rfl
theorem c_gh : Try.prog.cellsOf 50 = 5 := by kernel_rfl
theorem c_sg : Try.prog.cellsOf 48 = 4 := by kernel_rfl
theorem cells_gh {H : Type} {enc : TypeId × Value → H} {w : World} (m : Nat) (cs : List Value) (x : DataW H × List MemPlace) (hl : cs.length = 5) (h : DataW.trod enc Try.prog w 0 (fun _ => true) true m 50 cs = some x) : ∃ y : Gh, cs = y.cs ∧ y.ok := by
  obtain ⟨xs, m, _, _, _, hxl, hx⟩ := DataW.trod_struct Try.underlying50 h
  have hxl' : xs.length = 5 := hxl
  match cs, hl with
  | [a0, a1, a2, a3, a4], _ =>
    have g0 := hx 0 _ rfl
    have g1 := hx 1 _ rfl
    have g2 := hx 2 _ rfl
    have g3 := hx 3 _ rfl
    have g4 := hx 4 _ rfl
    simp only [List.getElem_toArray, List.getElem_cons_zero, List.getElem_cons_succ, c_strG, c_u64G, List.drop_zero, List.drop_succ_cons, List.take_succ_cons, List.take_zero] at g0 g1 g2 g3 g4
    rw [List.getElem?_eq_getElem (by omega)] at g0 g1 g2 g3 g4
    obtain ⟨ten, e0, _, w0⟩ := DataW.trod_string Try.underlying9 g0
    obtain ⟨z1, e1, _, w1⟩ := DataW.trod_int Try.underlying26 g1
    obtain ⟨z2, e2, _, w2⟩ := DataW.trod_int Try.underlying26 g2
    obtain ⟨z3, e3, _, w3⟩ := DataW.trod_int Try.underlying26 g3
    obtain ⟨z4, e4, _, w4⟩ := DataW.trod_int Try.underlying26 g4
    obtain ⟨n1, rfl, r1⟩ := u64_nat w1
    obtain ⟨n2, rfl, r2⟩ := u64_nat w2
    obtain ⟨n3, rfl, r3⟩ := u64_nat w3
    obtain ⟨n4, rfl, r4⟩ := u64_nat w4
    simp only [List.cons.injEq, and_true] at e0 e1 e2 e3 e4
    subst e0 e1 e2 e3 e4
    exact ⟨⟨ten, n1, n2, n3, n4⟩, rfl, r1, r2, r3, r4⟩
theorem arg_gh {H : Type} {enc : TypeId × Value → H} {w : World} {b0 : Nat} {v : Value} {d : DataW H} {p : List MemPlace} (o : Value.okWide Try.prog w .any b0 50 v) (h : DataW.Trod enc Try.prog w 0 (fun _ => true) true 50 v d p) :
    ∃ y : Gh, v = .agg (ghV y) ∧ y.ok := by
  obtain ⟨cs, rfl, hsz⟩ := okWide_struct Try.underlying50 o
  obtain ⟨fuel, hf⟩ := h
  obtain ⟨y, hcs, r⟩ := cells_gh _ _ _ (by have := hsz.trans c_gh; simpa [Value.cells] using this) hf
  refine ⟨y, ?_, r⟩
  congr 1
  apply Array.toList_inj.1
  simpa [Value.cells, Gh.cs, ghV] using hcs
theorem arg_ghs {H : Type} {enc : TypeId × Value → H} {w : World} {b0 : Nat} {v : Value} {d : DataW H} {p : List MemPlace} (o : Value.okWide Try.prog w .any b0 46 v) (h : DataW.Trod enc Try.prog w 0 (fun _ => true) true 46 v d p) :
    ∃ A c, ∃ xs : List Gh, v = .slice A xs.length c ∧ RdE Gh.cs w A xs ∧ (∀ y ∈ xs, y.ok) ∧ xs.length ≤ c ∧ c ≤ 9223372036854775807 ∧ (A = none → c = 0) := by
  obtain ⟨a0, len0, cap0, rfl⟩ := okWide_slice Try.underlying46 o
  obtain ⟨fuel, hf⟩ := h
  obtain ⟨A, c, ys, e1, r1, r2, r3, r4, r5⟩ := cells_elems Gh.cs (fun y => y.ok) Gh.cs_len (by decide) Try.underlying46 c_gh cells_gh hf
  simp [Value.cells] at e1
  obtain ⟨rfl, rfl, rfl⟩ := e1
  exact ⟨a0, cap0, ys, rfl, r1, r2, r3, r4, r5⟩
theorem arg_sg {H : Type} {enc : TypeId × Value → H} {w : World} {b0 : Nat} {v : Value} {d : DataW H} {p : List MemPlace} (o : Value.okWide Try.prog w .any b0 48 v) (h : DataW.Trod enc Try.prog w 0 (fun _ => true) true 48 v d p) :
    ∃ y : Sg, v = .agg (sgV y) ∧ y.p < 18446744073709551616 ∧ y.n < 18446744073709551616 := by
  obtain ⟨cs, rfl, hsz⟩ := okWide_struct Try.underlying48 o
  obtain ⟨fuel, hf⟩ := h
  have hl : cs.toList.length = 4 := by have := hsz.trans c_sg; simpa [Value.cells] using this
  obtain ⟨xs, m, _, _, _, hxl, hx⟩ := DataW.trod_struct Try.underlying48 hf
  have hxl' : xs.length = 4 := hxl
  obtain ⟨L⟩ := cs
  simp only [Value.cells] at hx
  match L, hl with
  | [a0, a1, a2, a3], _ =>
    have g0 := hx 0 _ rfl
    have g1 := hx 1 _ rfl
    have g2 := hx 2 _ rfl
    have g3 := hx 3 _ rfl
    simp only [List.getElem_toArray, List.getElem_cons_zero, List.getElem_cons_succ, c_strG, c_u64G, c_intG, List.drop_zero, List.drop_succ_cons, List.take_succ_cons, List.take_zero] at g0 g1 g2 g3
    rw [List.getElem?_eq_getElem (by omega)] at g0 g1 g2 g3
    obtain ⟨z0, e0, _, w0⟩ := DataW.trod_int Try.underlying3 g0
    obtain ⟨ten, e1, _, w1⟩ := DataW.trod_string Try.underlying9 g1
    obtain ⟨z2, e2, _, w2⟩ := DataW.trod_int Try.underlying26 g2
    obtain ⟨z3, e3, _, w3⟩ := DataW.trod_int Try.underlying26 g3
    obtain ⟨n2, rfl, r2⟩ := u64_nat w2
    obtain ⟨n3, rfl, r3⟩ := u64_nat w3
    simp only [List.cons.injEq, and_true] at e0 e1 e2 e3
    subst e0 e1 e2 e3
    exact ⟨⟨z0, ten, n2, n3⟩, rfl, r2, r3⟩
end Go.Proofs.Ytlgngnkaiidbeaa
