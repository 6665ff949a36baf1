/- A struct stored in the middle of a row. -/
import Derived.Test.YtlgngnkaiidbeaaCopyV
set_option maxRecDepth 100000
set_option linter.unusedVariables false
set_option linter.unusedSimpArgs false
namespace Go.Proofs.Ytlgngnkaiidbeaa
open Go.RowKit

section laws
variable {P : Program} {ops : Array Oper} {rest : List Oper} {o : Oper} {a : Act} {Q : Exit → Act → World → Prop}
theorem run_storeVar_mid (w : World) (g off : Nat) (t u : TypeId) (cur : List Value) (ds : Array Value) (H : Arr w g u cur.toArray) (hfit : off + ds.size ≤ cur.length) (hs : (P.info? t).map (·.size) = some ds.size) (h1 : ∀ v ∈ ds, v.oneCell' = true) :
    (storeVar t ⟨g, off, none⟩ (.agg ds)).run P w = .ok () (w.setRow g (splice cur off ds.toList).toArray) := by
  cases hq : P.info? t with
  | none => simp [hq] at hs
  | some inf =>
    have hz : inf.size = ds.size := by simpa [hq] using hs
    have h := run_storeCells_at P g off u ds.toList 0 cur.toArray w H (by simpa using hfit) (fun v hv => h1 v (by simpa using hv))
    simp [storeVar, sizeOf, typeInfo, hq, hz, Value.cells, h, splice]
/-- a struct, written in the middle of a row -/
theorem stE (w : World) (hgd : o.guard = none) (t : TypeId) (x y : Operand) (ho : o.op = .store t x y) (g off : Nat) (ds : Array Value) (u : TypeId) (cur : List Value) (hx : a.eval x = .pointer (some ⟨g, off, none⟩)) (hy : a.eval y = .agg ds) (H : Arr w g u cur.toArray)
    (hfit : off + ds.size ≤ cur.length) (hs : (P.info? t).map (·.size) = some ds.size) (h1 : ∀ v ∈ ds, v.oneCell' = true)
    (h : ∀ w', w'.heap.size = w.heap.size → Arr w' g u (splice cur off ds.toList).toArray → w.grownBy w' (some g) → wpList P ops Q rest (a.put o.dst undef) w') : wpList P ops Q (o :: rest) a w := by
  refine wpList_plain hgd fun K hK => ?_
  unfold Oper.wp execOp
  simp only [ho, hx, hy, Instr.storeAt, Instr.sureAddr, Sem.run_bind, Sem.run_pure, Result.andThen_ok, run_storeVar_mid w g off t u cur ds H hfit hs h1]
  exact hK _ _ (h _ (by simp) H.setRow (grown_setRow w g _))
/-- a variable made, in a region that draws its order -/
theorem stepAl {K : Act → World → Prop} {E : Prop} (w : World) (hgd : Region.wanted o (yielded ops a.tmps) = true) (t : TypeId) (ho : o.op = .alloc t) (cs : Array Value) (n : Nat) (hz : (P.info? t).map (fun i => (i.zero, i.size)) = some (some (.agg cs), n))
    (h : ∀ g w', w.heap.size = g → w'.heap.size = g + 1 → Arr w' g t cs → Ext w w' → K (a.put o.dst (.pointer (some ⟨g, 0, none⟩))) w') : if Region.wanted o (yielded ops a.tmps) = true then Oper.wp P o a w K Q else E := by
  rw [if_pos hgd]
  unfold Oper.wp execOp
  have := (zero_of_info hz).1 w
  simp [ho, Instr.alloc, newVar, newRow, newObj, Value.cells, this]
  exact h _ _ rfl (by simp) (Arr.new w t cs) ((Ext.refl w).alloc _)
/-- a whole variable written, in a region that draws its order -/
theorem stepSt {K : Act → World → Prop} {E : Prop} (w : World) (hgd : Region.wanted o (yielded ops a.tmps) = true) (t u : TypeId) (x y : Operand) (ho : o.op = .store t x y) (g : Nat) (cs ds : Array Value) (hx : a.eval x = .pointer (some ⟨g, 0, none⟩)) (hy : a.eval y = .agg ds) (H : Arr w g u cs)
    (hi : (P.info? t).map (·.size) = some ds.size) (hs : cs.size = ds.size) (h1 : ∀ v ∈ ds, v.oneCell' = true)
    (h : ∀ w', w'.heap.size = w.heap.size → Arr w' g u ds → w.grownBy w' (some g) → K (a.put o.dst undef) w') : if Region.wanted o (yielded ops a.tmps) = true then Oper.wp P o a w K Q else E := by
  rw [if_pos hgd]
  exact wp_store_row t x y ho g ds hx hy u cs H hi hs (by rw [Array.all_eq_true_iff_forall_mem]; exact h1) (h _ (by simp) H.setRow (grown_setRow w g ds))
end laws
theorem splice_app {α : Type} (A B C D : List α) (k : Nat) (hk : A.length = k) (h : B.length = D.length) : splice (A ++ B ++ C) k D = A ++ D ++ C := by
  subst hk
  unfold splice
  rw [List.drop_left' (by rw [List.length_append, h]), List.append_assoc A B C, List.take_left, List.append_assoc]
theorem splice_take {α : Type} (Z X Y V R : List α) (k : Nat) (hX : X.length = k) (hZ : Z = X ++ Y ++ R) (hV : V.length ≤ Y.length) : (splice Z k V).take (k + Y.length) = X ++ V ++ Y.drop V.length := by
  subst hX hZ
  have h0 : X ++ Y ++ R = X ++ Y.take V.length ++ (Y.drop V.length ++ R) := by
    rw [List.append_assoc, List.append_assoc, ← List.append_assoc (Y.take _), List.take_append_drop]
  rw [h0, splice_app _ _ _ _ _ rfl (by rw [List.length_take]; omega), ← List.append_assoc]
  exact List.take_left' (by simp; omega)
theorem splice_mid {α : Type} (Z X V Y : List α) (R : List α) (k m : Nat) (hX : X.length = k) (hV : V.length = m) (hZ : Z = X ++ Y ++ R) (hR : m ≤ R.length) :
    (splice (splice Z (k + m) Y) k V).take (k + m + Y.length) = X ++ V ++ Y := by
  subst hX hV hZ
  obtain ⟨T, hT⟩ : ∃ T, T = (Y ++ R).take V.length := ⟨_, rfl⟩
  obtain ⟨U, hU⟩ : ∃ U, U = ((Y ++ R).drop V.length).take Y.length := ⟨_, rfl⟩
  obtain ⟨S, hS⟩ : ∃ S, S = ((Y ++ R).drop V.length).drop Y.length := ⟨_, rfl⟩
  have lT : T.length = V.length := by rw [hT, List.length_take, List.length_append]; omega
  have lU : U.length = Y.length := by rw [hU, List.length_take, List.length_drop, List.length_append]; omega
  have h0 : X ++ Y ++ R = (X ++ T) ++ U ++ S := by
    rw [List.append_assoc (X ++ T), hU, hS, List.take_append_drop, hT, List.append_assoc X, List.append_assoc X, List.take_append_drop]
  rw [h0, splice_app _ _ _ _ _ (by rw [List.length_append, lT]) lU, List.append_assoc (X ++ T), splice_app _ _ _ _ _ rfl lT, ← List.append_assoc]
  exact List.take_left' (by simp; omega)
theorem splice_grow {α : Type} (X V Y Z1 Z2 : List α) (k m : Nat) (hX : X.length = k) (hV : V.length = m) (hZ : Z1.length = V.length + Y.length) :
    (splice (splice (X ++ Z1 ++ Z2) k V) (k + m) Y).take (k + m + Y.length) = X ++ V ++ Y := by
  subst hX hV
  have h0 : X ++ Z1 ++ Z2 = X ++ Z1.take V.length ++ (Z1.drop V.length ++ Z2) := by
    rw [List.append_assoc, List.append_assoc, ← List.append_assoc (Z1.take _), List.take_append_drop]
  rw [h0, splice_app _ _ _ _ _ rfl (by rw [List.length_take]; omega), ← List.append_assoc, splice_app _ _ _ _ _ (by simp) (by rw [List.length_drop]; omega)]
  exact List.take_left' (by simp; omega)
end Go.Proofs.Ytlgngnkaiidbeaa
