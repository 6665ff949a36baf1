/- A region that draws its order, whose operations only read and whose callees only make memory: one walk in the order of the text. -/
import Derived.Test.YtlgngnkaiidbeaaMem
import Derived.Deep.QuietTactic
set_option maxRecDepth 100000
set_option linter.unusedVariables false
set_option linter.unusedSimpArgs false
namespace Go.Proofs.Ytlgngnkaiidbeaa
open Go.RowKit

/-- what is left of the region, hidden (else each tactic would look through all steps that are passed over) -/
structure QGoal (P : Program) (ops : Array Oper) (I : World → Prop) (Q : Act → Prop) (l : List Oper) (a : Act) : Prop where
  out : wpQuiet P ops I Q l a
section
variable {P : Program} {ops : Array Oper} {Q : Act → Prop} {a : Act} {o : Oper} {rest : List Oper} {w0 : World}
theorem wpq_nil (h : Q a) : QGoal P ops (Ext w0) Q [] a := ⟨wpQuiet_nil h⟩
theorem wpq_skip (h0 : Region.wanted o (yielded ops a.tmps) = false) (h : QGoal P ops (Ext w0) Q rest (a.put o.dst undef)) : QGoal P ops (Ext w0) Q (o :: rest) a := by
  refine ⟨?_⟩
  unfold wpQuiet; rw [if_neg (by rw [h0]; simp)]; exact h.out
theorem wpq_take (v : Value) (h0 : Region.wanted o (yielded ops a.tmps) = true) (hv : ∀ W, Ext w0 W → (execOp a.eval o).run P W = .ok (.value v) W) (h : QGoal P ops (Ext w0) Q rest (a.put o.dst v)) : QGoal P ops (Ext w0) Q (o :: rest) a := by
  refine ⟨?_⟩
  unfold wpQuiet; rw [if_pos h0]
  exact ⟨v, fun W hW => by unfold Oper.quietAt; rw [hv W hW]; exact ⟨rfl, rfl⟩, h.out⟩
theorem wpq_call (v : Value) (f : FuncId) (args : Array Value) (h0 : Region.wanted o (yielded ops a.tmps) = true) (hr : ∀ W, Ext w0 W → (execOp a.eval o).run P W = .ok (.enter f args) W) (hc : ∀ W, Ext w0 W → Calls P f args W (RetV W v))
    (h : QGoal P ops (Ext w0) Q rest (a.put o.dst v)) : QGoal P ops (Ext w0) Q (o :: rest) a := by
  refine ⟨?_⟩
  unfold wpQuiet; rw [if_pos h0]
  refine ⟨v, fun W hW => ?_, h.out⟩
  unfold Oper.quietAt
  rw [hr W hW]
  exact ⟨rfl, (hc W hW).mono fun _ _ ⟨h1, h2⟩ => ⟨h1, hW.trans h2⟩⟩
theorem wp_region_quietE {id : Nat} {Q : Exit → Act → World → Prop} {a : Act} {w : World} {l : List Oper} (w0 : World) (hE : Ext w0 w) (hm : P.follows .mixedOrders = true) (hB : Region.lexB .any l.toArray = true)
    (h : QGoal P l.toArray (Ext w0) (fun a' => ∀ w', Ext w0 w' → Q .normal a' w') l a) : (Code.region id l.toArray true).wp P Q a w :=
  wp_region_quiet (C := Ext w0) hm hB hE.drew (by simpa using h.out)
end
end Go.Proofs.Ytlgngnkaiidbeaa
