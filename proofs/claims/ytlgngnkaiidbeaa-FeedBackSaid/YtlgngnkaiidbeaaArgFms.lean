/- Frames that came in, in a row. -/
import Derived.Test.YtlgngnkaiidbeaaArgs
import Derived.Test.YtlgngnkaiidbeaaArgFra
import Derived.Test.YtlgngnkaiidbeaaArgE2
import Derived.Test.YtlgngnkaiidbeaaFeedA
set_option maxRecDepth 100000
set_option linter.unusedVariables false
set_option linter.unusedSimpArgs false
namespace Go.Proofs.Ytlgngnkaiidbeaa
open Go.RowKit Go.ChangeShapes Go.WideShapes Go.ChangeAt

theorem cells_fm {H : Type} {enc : TypeId × Value → H} {w : World} {n : Nat} {cs : List Value} {x : DataW H × List MemPlace} (hl : cs.length = 5)
    (h : DataW.trod enc Try.prog w 0 (fun _ => true) true n 65 cs = some x) : ∃ y : Fm, cs = y.cs ∧ RdB w y.A y.d := by
  obtain ⟨k, s, n', t, A, c, d, hcs, r, _⟩ := cells_fra hl h
  exact ⟨⟨k, s, n', t, A, c, d⟩, hcs, r⟩
theorem arg_fms {H : Type} {enc : TypeId × Value → H} {w : World} {b0 : Nat} {v : Value} {d : DataW H} {p : List MemPlace} (o : Value.okWide Try.prog w .any b0 57 v) (h : DataW.Trod enc Try.prog w 0 (fun _ => true) true 57 v d p) :
    ∃ A c, ∃ xs : List Fm, v = .slice A xs.length c ∧ FmIn w A xs ∧ xs.length ≤ c ∧ c ≤ 9223372036854775807 := by
  obtain ⟨a0, len0, cap0, rfl⟩ := okWide_slice Try.underlying57 o
  obtain ⟨fuel, hf⟩ := h
  obtain ⟨A, c, ys, e1, r1, r2, r3, r4, r5⟩ := cells_elems Fm.cs (fun y => RdB w y.A y.d) Fm.cs_len (by decide) Try.underlying57 c_fra (fun m cs x hl h => cells_fm hl h) hf
  simp [Value.cells] at e1
  obtain ⟨rfl, rfl, rfl⟩ := e1
  exact ⟨a0, cap0, ys, rfl, ⟨r1, r2⟩, r3, r4⟩
theorem arg_u8 {H : Type} {enc : TypeId × Value → H} {w : World} {b0 : Nat} {v : Value} {d : DataW H} {p : List MemPlace} (o : Value.okWide Try.prog w .any b0 5 v) (h : DataW.Trod enc Try.prog w 0 (fun _ => true) true 5 v d p) :
    ∃ u : UInt8, v = .int .u8 (u.toNat : Int) := by
  obtain ⟨z, rfl, hw⟩ := arg_int Try.underlying5 o h
  exact ⟨UInt8.ofNat z.toNat, by rw [← u8_byte hw]⟩
end Go.Proofs.Ytlgngnkaiidbeaa
