/- Maps of pairs in a walk: lookup, update, delete as operations. -/
import Derived.Test.YtlgngnkaiidbeaaMapR
import Derived.Test.YtlgngnkaiidbeaaArrEq
set_option maxRecDepth 100000
set_option linter.unusedVariables false
set_option linter.unusedSimpArgs false
namespace Go.Proofs.Ytlgngnkaiidbeaa
open Go.RowKit

section laws
variable {P : Program} (w : World) {ops : Array Oper} {rest : List Oper} {o : Oper} {a : Act} {Q : Exit → Act → World → Prop} {K T E : TypeId}
/-- m[k] = v -/
theorem upI (hg : o.guard = none) (H : PairKey P K) (ht : P.underlying T = some (.map K E)) (m x y : Operand) (hop : o.op = Op.mapUpdate T m x y) (b : Nat) (l : KL) (k : Int × Int) (v : Value) (hm : a.eval m = .map (some b)) (hx : a.eval x = keyV k) (hy : a.eval y = v) (hown : MapI w b l)
    (hK : ∀ w', MapI w' b (putI l k v) → w.grownBy w' (some b) → w'.heap.size = w.heap.size → wpList P ops Q rest (a.put o.dst undef) w') :
    wpList P ops Q (o :: rest) a w := by
  refine wpList_plain hg fun K' hK' => ?_
  obtain ⟨w', hrun, h1, h2, h3⟩ := run_updI H T E ht w b l hown k v
  unfold Oper.wp
  simp [execOp, hop, hm, hx, hy, hrun, Result.andThen]
  exact hK' _ _ (hK w' h1 h2 h3)
/-- v, ok := m[k] -/
theorem lkI (hg : o.guard = none) (H : PairKey P K) (ht : P.underlying T = some (.map K E)) (m x : Operand) (hop : o.op = Op.lookup T m x true) (b : Nat) (l : KL) (k : Int × Int) (z : Value) (hz : ∀ w, (zeroValue E).run P w = .ok z w) (hm : a.eval m = .map (some b)) (hx : a.eval x = keyV k) (hown : MapI w b l)
    (hK : wpList P ops Q rest (a.put o.dst (.tuple #[((fI l k 0).map (·.2)).getD z, .bool (fI l k 0).isSome])) w) :
    wpList P ops Q (o :: rest) a w := by
  refine wpList_plain hg fun K' hK' => ?_
  have hrun := run_lookI H T E ht z w (hz w) b l hown k
  unfold Oper.wp
  simp [execOp, hop, hm, hx, hrun, Result.andThen]
  exact hK' _ _ hK
/-- delete(m, k) -/
theorem dlI (hg : o.guard = none) (H : PairKey P K) (ht : P.underlying T = some (.map K E)) (m x : Operand) (hop : o.op = Op.call { callee := Callee.builtin Builtin.delete, args := #[m, x], argTypes := #[T, K] }) (b : Nat) (l : KL) (k : Int × Int) (hm : a.eval m = .map (some b)) (hx : a.eval x = keyV k) (hown : MapI w b l)
    (hK : ∀ w', MapI w' b (delI l k) → w.grownBy w' (some b) → w'.heap.size = w.heap.size → wpList P ops Q rest (a.put o.dst (.tuple #[])) w') :
    wpList P ops Q (o :: rest) a w := by
  refine wpList_plain hg fun K' hK' => ?_
  obtain ⟨w', hrun, h1, h2, h3⟩ := run_delI H T E ht w b l hown k o.type
  unfold Oper.wp
  simp [execOp, hop, resolve, invoke, builtin, hm, hx, hrun, Result.andThen]
  exact hK' _ _ (hK w' h1 h2 h3)
/-- make(map[..]..) -/
theorem mkI (hg : o.guard = none) (T : TypeId) (hop : o.op = Op.makeMap T none)
    (hK : ∀ g w', w.heap.size = g → w'.heap.size = g + 1 → MapI w' g [] → Ext w w' → wpList P ops Q rest (a.put o.dst (.map (some g))) w') :
    wpList P ops Q (o :: rest) a w := by
  refine wpList_plain hg fun K' hK' => ?_
  unfold Oper.wp
  simp [execOp, hop, Instr.makeMap, newObj, Result.andThen]
  exact hK' _ _ (hK _ _ rfl (by simp) (MapI.made w) ((Ext.refl w).alloc _))
end laws

theorem pairK : PairKey Try.prog 89 where
  arr := ⟨2, 3, Try.underlying89⟩
  eq := fun a b c d w => by
    have hi0 : (Try.prog.info? 3).isSome = true := by kernel_rfl
    obtain ⟨i, hi⟩ := Option.isSome_iff_exists.1 hi0
    have h := run_arrEq (P := Try.prog) w 9998 89 3 .i64 i [a, b] [c, d] Try.underlying89 Try.underlying3 hi (by kernel_rfl) (by kernel_rfl) rfl
    have e : decide ([a, b] = [c, d]) = (decide (a = c) && decide (b = d)) := by
      rw [Bool.eq_iff_iff]; simp
    rw [e] at h
    exact h
  chk := fun e a b w => by kernel_rfl
end Go.Proofs.Ytlgngnkaiidbeaa
