/- A frame that came in by value. -/
import Derived.Test.YtlgngnkaiidbeaaArgs2
import Derived.Test.YtlgngnkaiidbeaaWire
set_option maxRecDepth 100000
set_option linter.unusedVariables false
set_option linter.unusedSimpArgs false
namespace Go.Proofs.Ytlgngnkaiidbeaa
open Go.RowKit Go.ChangeShapes Go.WideShapes Go.ChangeAt

theorem c_int : Try.prog.cellsOf 3 = 1 := by kernel_rfl
theorem c_str : Try.prog.cellsOf 9 = 1 := by kernel_rfl
theorem c_byte : Try.prog.cellsOf 5 = 1 := by kernel_rfl
theorem c_bytes : Try.prog.cellsOf 27 = 1 := by kernel_rfl
theorem c_fra : Try.prog.cellsOf 65 = 5 := by kernel_rfl

/-- cells that read as a frame -/
theorem cells_fra {H : Type} {enc : TypeId × Value → H} {w : World} {n : Nat} {cs : List Value} {x : DataW H × List MemPlace} (hl : cs.length = 5)
    (h : DataW.trod enc Try.prog w 0 (fun _ => true) true n 65 cs = some x) :
    ∃ (k s n : Int) (t : ByteArray) (A : Option Addr) (c : Nat) (d : List UInt8), cs = [.int .i64 k, .int .i64 s, .int .i64 n, .string t, .slice A d.length c] ∧ RdB w A d ∧ d.length ≤ c ∧ c ≤ 9223372036854775807 ∧ t.size ≤ 9223372036854775807 ∧
      (-9223372036854775808 ≤ k ∧ k ≤ 9223372036854775807) ∧ (-9223372036854775808 ≤ s ∧ s ≤ 9223372036854775807) ∧ (-9223372036854775808 ≤ n ∧ n ≤ 9223372036854775807) := by
  obtain ⟨xs, m, _, _, _, hxl, hx⟩ := DataW.trod_struct Try.underlying65 h
  have hxl' : xs.length = 5 := hxl
  match cs, hl with
  | [a0, a1, a2, a3, a4], _ =>
    have g0 := hx 0 _ rfl
    have g1 := hx 1 _ rfl
    have g2 := hx 2 _ rfl
    have g3 := hx 3 _ rfl
    have g4 := hx 4 _ rfl
    simp only [List.getElem_toArray, List.getElem_cons_zero, List.getElem_cons_succ, c_int, c_str, c_bytes, List.drop_zero, List.drop_succ_cons, List.take_succ_cons, List.take_zero] at g0 g1 g2 g3 g4
    rw [List.getElem?_eq_getElem (by omega)] at g0 g1 g2 g3 g4
    obtain ⟨z0, e0, _, w0⟩ := DataW.trod_int Try.underlying3 g0
    obtain ⟨z1, e1, _, w1⟩ := DataW.trod_int Try.underlying3 g1
    obtain ⟨z2, e2, _, w2⟩ := DataW.trod_int Try.underlying3 g2
    obtain ⟨ten, e3, _, w3⟩ := DataW.trod_string Try.underlying9 g3
    obtain ⟨A, c, d, e4, r1, r2, r3⟩ := cells_bytes Try.underlying27 Try.underlying5 c_byte g4
    simp only [List.cons.injEq, and_true] at e0 e1 e2 e3 e4
    subst e0 e1 e2 e3 e4
    exact ⟨z0, z1, z2, ten, A, c, d, rfl, r1, r2, r3, by simpa [maxLen] using w3, i64_rng w0, i64_rng w1, i64_rng w2⟩

theorem arg_fra {H : Type} {enc : TypeId × Value → H} {w : World} {b0 : Nat} {v : Value} {d : DataW H} {p : List MemPlace}
    (o : Value.okWide Try.prog w .any b0 65 v) (h : DataW.Trod enc Try.prog w 0 (fun _ => true) true 65 v d p) :
    ∃ (k s n : Int) (t : ByteArray) (A : Option Addr) (c : Nat) (d : List UInt8), v = fraA k s n t A d.length c ∧ RdB w A d ∧ d.length ≤ c ∧ c ≤ 9223372036854775807 ∧ t.size ≤ 9223372036854775807 ∧
      (-9223372036854775808 ≤ k ∧ k ≤ 9223372036854775807) ∧ (-9223372036854775808 ≤ s ∧ s ≤ 9223372036854775807) ∧ (-9223372036854775808 ≤ n ∧ n ≤ 9223372036854775807) := by
  obtain ⟨cs, rfl, hsz⟩ := okWide_struct Try.underlying65 o
  obtain ⟨fuel, hf⟩ := h
  obtain ⟨k, s, n, t, A, c, d, hcs, r⟩ := cells_fra (by have := hsz.trans c_fra; simpa [Value.cells] using this) hf
  refine ⟨k, s, n, t, A, c, d, ?_, r⟩
  unfold fraA
  congr 1
  apply Array.toList_inj.1
  simpa [Value.cells] using hcs
end Go.Proofs.Ytlgngnkaiidbeaa
