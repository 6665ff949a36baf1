/- A record that came in by value. -/
import Derived.Test.YtanlelignljbiaaArgs
import Derived.Test.YtanlelignljbiaaRec
set_option maxRecDepth 100000
namespace Go.Proofs.Ytanlelignljbiaa
open Go.RowKit Go.ChangeShapes Go.WideShapes Go.ChangeAt

theorem c_u64 : Try.prog.cellsOf 22 = 1 := by kernel_rfl
theorem c_int : Try.prog.cellsOf 3 = 1 := by kernel_rfl
theorem c_str : Try.prog.cellsOf 9 = 1 := by kernel_rfl
theorem c_rec : Try.prog.cellsOf 24 = 6 := by kernel_rfl

theorem arg_rec {H : Type} {enc : TypeId × Value → H} {w : World} {b0 : Nat} {v : Value} {d : DataW H} {p : List MemPlace}
    (o : Value.okWide Try.prog w .any b0 24 v) (h : DataW.Trod enc Try.prog w 0 (fun _ => true) true 24 v d p) :
    ∃ (seq : Nat) (k : Int) (ten : ByteArray) (lease n bits : Nat), v = recA seq k ten lease n bits ∧ seq < 18446744073709551616 ∧ (-9223372036854775808 ≤ k ∧ k ≤ 9223372036854775807) ∧ ten.size ≤ 9223372036854775807 ∧
      lease < 18446744073709551616 ∧ n < 18446744073709551616 ∧ bits < 18446744073709551616 := by
  obtain ⟨cs, rfl, hsz⟩ := okWide_struct Try.underlying24 o
  obtain ⟨fuel, hf⟩ := h
  obtain ⟨xs, m, _, _, _, hxl, hx⟩ := DataW.trod_struct Try.underlying24 hf
  have hxl' : xs.length = 6 := hxl
  obtain ⟨l⟩ := cs
  match l, hsz.trans c_rec with
  | [a0, a1, a2, a3, a4, a5], _ =>
    have g0 := hx 0 _ rfl
    have g1 := hx 1 _ rfl
    have g2 := hx 2 _ rfl
    have g3 := hx 3 _ rfl
    have g4 := hx 4 _ rfl
    have g5 := hx 5 _ rfl
    simp only [List.getElem_toArray, List.getElem_cons_zero, List.getElem_cons_succ, Value.cells, c_u64, c_int, c_str, List.drop_zero, List.drop_succ_cons, List.take_succ_cons, List.take_zero] at g0 g1 g2 g3 g4 g5
    rw [List.getElem?_eq_getElem (by omega)] at g0 g1 g2 g3 g4 g5
    obtain ⟨z0, e0, _, w0⟩ := DataW.trod_int Try.underlying22 g0
    obtain ⟨z1, e1, _, w1⟩ := DataW.trod_int Try.underlying3 g1
    obtain ⟨ten, e2, _, w2⟩ := DataW.trod_string Try.underlying9 g2
    obtain ⟨z3, e3, _, w3⟩ := DataW.trod_int Try.underlying22 g3
    obtain ⟨z4, e4, _, w4⟩ := DataW.trod_int Try.underlying22 g4
    obtain ⟨z5, e5, _, w5⟩ := DataW.trod_int Try.underlying22 g5
    simp only [List.cons.injEq, and_true] at e0 e1 e2 e3 e4 e5
    subst e0 e1 e2 e3 e4 e5
    obtain ⟨n0, rfl, h0⟩ := u64_nat w0
    obtain ⟨n3, rfl, h3⟩ := u64_nat w3
    obtain ⟨n4, rfl, h4⟩ := u64_nat w4
    obtain ⟨n5, rfl, h5⟩ := u64_nat w5
    exact ⟨n0, z1, ten, n3, n4, n5, rfl, h0, i64_rng w1, by simpa [maxLen] using w2, h3, h4, h5⟩
end Go.Proofs.Ytanlelignljbiaa
