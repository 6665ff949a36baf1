/- One cell of a variable, written. -/
import Derived.Test.YtlgngnkaiidbeaaMemV
import Derived.Test.YtlgngnkaiidbeaaArr
set_option maxRecDepth 100000
set_option linter.unusedVariables false
set_option linter.unusedSimpArgs false
namespace Go.Proofs.Ytlgngnkaiidbeaa
open Go.RowKit

theorem grown_setCell (w : World) (g i : Nat) (v : Value) : w.grownBy (w.setCell ⟨g, i, none⟩ v) (some g) :=
  ⟨rfl, rfl, rfl, by simp [World.setCell], fun k _ hne => Below.heap_setCell w _ v k (by intro e; exact hne (by rw [e]))⟩
section laws
variable {P : Program} {ops : Array Oper} {rest : List Oper} {o : Oper} {a : Act} {Q : Exit → Act → World → Prop}
theorem run_storeVar_cell (w : World) (g i : Nat) (t u : TypeId) (cs : Array Value) (v : Value) (H : Arr w g u cs) (hi : i < cs.size) (hs : (P.info? t).map (·.size) = some 1) (h1 : v.oneCell' = true) :
    (storeVar t ⟨g, i, none⟩ v).run P w = .ok () (w.setCell ⟨g, i, none⟩ v) := by
  have hc : v.cells = #[v] := by cases v <;> first | rfl | (simp [Value.oneCell'] at h1)
  have h2 : w.cell? ⟨g, i, none⟩ = some cs[i] := by rw [H.cell]; simp [hi]
  cases hq : P.info? t with
  | none => simp [hq] at hs
  | some inf =>
    have hz : inf.size = 1 := by simpa [hq] using hs
    simp [storeVar, sizeOf, typeInfo, hq, hc, hz, storeCells, add_zero', run_store P w _ v _ h1, h2, H.frozen i]
/-- one cell of a variable, written -/
theorem stF (w : World) (hgd : o.guard = none) (t : TypeId) (x y : Operand) (ho : o.op = .store t x y) (g i : Nat) (v : Value) (u : TypeId) (cs : Array Value) (hx : a.eval x = .pointer (some ⟨g, i, none⟩)) (hy : a.eval y = v) (H : Arr w g u cs)
    (hi : i < cs.size) (hs : (P.info? t).map (·.size) = some 1) (h1 : v.oneCell' = true)
    (h : ∀ w', w'.heap.size = w.heap.size → Arr w' g u (cs.setIfInBounds i v) → w.grownBy w' (some g) → wpList P ops Q rest (a.put o.dst undef) w') : wpList P ops Q (o :: rest) a w := by
  refine wpList_plain hgd fun K hK => ?_
  unfold Oper.wp execOp
  simp only [ho, hx, hy, Instr.storeAt, Instr.sureAddr, Sem.run_bind, Sem.run_pure, Result.andThen_ok, run_storeVar_cell w g i t u cs v H hi hs h1]
  exact hK _ _ (h _ (by simp [World.setCell]) (H.set i v) (grown_setCell w g i v))
end laws
end Go.Proofs.Ytlgngnkaiidbeaa
