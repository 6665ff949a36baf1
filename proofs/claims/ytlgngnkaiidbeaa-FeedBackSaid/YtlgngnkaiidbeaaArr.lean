/- Arrays and structs by value: blocks of cells, known whole; laws of box, alloc, load, store, and of a result that lies in a cell. -/
import Derived.Test.YtlgngnkaiidbeaaMem
import Derived.Laws.Rows
import Derived.Laws.Tables
import Derived.Deep.WholeRow
import Derived.StillTailTactics
set_option maxRecDepth 100000
set_option linter.unusedVariables false
set_option linter.unusedSimpArgs false
namespace Go.Proofs.Ytlgngnkaiidbeaa
open Go.RowKit

/-- block g holds these cells -/
def Arr (w : World) (g : Nat) (t : TypeId) (cs : Array Value) : Prop := w.heap[g]? = some (.cells cs t (0, 0))

section arr
variable {w w1 : World} {g h : Nat} {t u : TypeId} {cs ds : Array Value}
theorem Arr.lt (H : Arr w g t cs) : g < w.heap.size := by
  rcases Nat.lt_or_ge g w.heap.size with hl | hg
  · exact hl
  · unfold Arr at H; rw [Array.getElem?_eq_none hg] at H; cases H
theorem Arr.ext (H : Arr w g t cs) (he : Ext w w1) : Arr w1 g t cs := he.block H
theorem Arr.grown {row : Option Nat} (H : Arr w g t cs) (hg : w.grownBy w1 row) (hr : some g ≠ row) : Arr w1 g t cs := by
  unfold Arr; rw [hg.block g H.lt hr]; exact H
theorem Arr.cell (H : Arr w g t cs) (i : Nat) : w.cell? ⟨g, i, none⟩ = cs[i]? := by unfold Arr at H; simp [World.cell?, H]
theorem Arr.cell_some (H : Arr w g t cs) {i : Nat} {v : Value} (hv : cs[i]? = some v) : w.cell? ⟨g, i, none⟩ = some v := (H.cell i).trans hv
theorem Arr.frozen (H : Arr w g t cs) (i : Nat) : w.frozen? ⟨g, i, none⟩ = false := by unfold Arr at H; simp [World.frozen?, H]
theorem Arr.set (H : Arr w g t cs) (i : Nat) (v : Value) : Arr (w.setCell ⟨g, i, none⟩ v) g t (cs.setIfInBounds i v) := by
  unfold Arr at *; simp [World.setCell, Array.getElem?_modify, H]
theorem Arr.other (H : Arr w g t cs) (hne : g ≠ h) (i : Nat) (v : Value) : Arr (w.setCell ⟨h, i, none⟩ v) g t cs := by
  unfold Arr at *
  rw [Below.heap_setCell _ _ _ _ (by simpa using hne)]
  exact H
theorem Arr.drewN (H : Arr w g t cs) (n : Nat) : Arr (w.drewN n) g t cs := H
theorem Arr.drew (H : Arr w g t cs) : Arr w.drew g t cs := H
theorem Arr.setRow (H : Arr w g t cs) : Arr (w.setRow g ds) g t ds := setRow_heap w g cs ds t (0, 0) H
theorem Arr.rd (H : Arr w g t cs) : Rd w (some ⟨g, 0, none⟩) cs.toList := Rd.of_block H
theorem grown_setRow (w : World) (g : Nat) (cs : Array Value) : w.grownBy (w.setRow g cs) (some g) :=
  ⟨rfl, rfl, rfl, by simp, fun k _ hne => setRow_other w g k cs (by intro e; subst e; exact hne rfl)⟩
theorem Ext.setRow (H : Ext w w1) (hg : w.heap.size ≤ g) (cs : Array Value) : Ext w (w1.setRow g cs) :=
  H.grown (grown_setRow w1 g cs) (fun k hk => by injection hk with hk; omega)
theorem Arr.new (w : World) (t : TypeId) (cs : Array Value) : Arr (w.alloc (.cells cs t)) w.heap.size t cs := heap_alloc_new w _
end arr

section laws
variable {P : Program} {ops : Array Oper} {rest : List Oper} {o : Oper} {a : Act} {Q : Exit → Act → World → Prop}

/-- a variable of its own, from an aggregate -/
theorem bxA (w : World) (hgd : o.guard = none) (t : TypeId) (x : Operand) (ho : o.op = .box t x) (cs : Array Value) (hx : a.eval x = .agg cs)
    (h : ∀ g w', w.heap.size = g → w'.heap.size = g + 1 → Arr w' g t cs → Ext w w' → wpList P ops Q rest (a.put o.dst (.pointer (some ⟨g, 0, none⟩))) w') :
    wpList P ops Q (o :: rest) a w := by
  refine wpList_plain hgd fun K hK => ?_
  unfold Oper.wp execOp
  simp [ho, hx, Instr.box, newVar, newRow, newObj, Value.cells]
  exact hK _ _ (h _ _ rfl (by simp) (Arr.new w t cs) ((Ext.refl w).alloc _))
/-- a variable of its own, zero -/
theorem alA (w : World) (hgd : o.guard = none) (t : TypeId) (ho : o.op = .alloc t) (cs : Array Value) (n : Nat) (hz : (P.info? t).map (fun i => (i.zero, i.size)) = some (some (.agg cs), n))
    (h : ∀ g w', w.heap.size = g → w'.heap.size = g + 1 → Arr w' g t cs → Ext w w' → wpList P ops Q rest (a.put o.dst (.pointer (some ⟨g, 0, none⟩))) w') :
    wpList P ops Q (o :: rest) a w := by
  refine wpList_plain hgd fun K hK => ?_
  unfold Oper.wp execOp
  have := (zero_of_info hz).1 w
  simp [ho, Instr.alloc, newVar, newRow, newObj, Value.cells, this]
  exact hK _ _ (h _ _ rfl (by simp) (Arr.new w t cs) ((Ext.refl w).alloc _))
/-- a whole variable, read -/
theorem ldA (w : World) (hgd : o.guard = none) (t u : TypeId) (x : Operand) (ho : o.op = .load t x) (g : Nat) (hx : a.eval x = .pointer (some ⟨g, 0, none⟩)) (cs : Array Value) (d : TypeDesc) (H : Arr w g u cs)
    (hu : P.underlying t = some d) (hd : (match d with | .struct _ | .array _ _ => true | _ => false) = true) (hi : (P.info? t).map (·.size) = some cs.size)
    (h : wpList P ops Q rest (a.put o.dst (.agg cs)) w) : wpList P ops Q (o :: rest) a w :=
  wpList_load_row hgd t x ho g hx u cs (0, 0) d H hu hd hi h
/-- a whole variable, written -/
theorem stA (w : World) (hgd : o.guard = none) (t u : TypeId) (x y : Operand) (ho : o.op = .store t x y) (g : Nat) (cs ds : Array Value) (hx : a.eval x = .pointer (some ⟨g, 0, none⟩)) (hy : a.eval y = .agg ds) (H : Arr w g u cs)
    (hi : (P.info? t).map (·.size) = some ds.size) (hs : cs.size = ds.size) (h1 : ∀ v ∈ ds, v.oneCell' = true)
    (h : ∀ w', w'.heap.size = w.heap.size → Arr w' g u ds → w.grownBy w' (some g) → wpList P ops Q rest (a.put o.dst undef) w') : wpList P ops Q (o :: rest) a w :=
  wpList_store_row hgd t x y ho g ds hx hy u cs H hi hs (by rw [Array.all_eq_true_iff_forall_mem]; exact h1) (h _ (by simp) H.setRow (grown_setRow w g ds))
end laws

/-- a part of an array's variable -/
theorem slice_arr {P : Program} (w : World) (t e : TypeId) (n : Nat) (g lo hi : Nat) (x y : Int) (hu : P.underlying t = some (.array n e)) (he : (P.info? e).map (·.size) = some 1) (hx : x = (lo : Int)) (hy : y = (hi : Int)) (h1 : lo ≤ hi) (h2 : hi ≤ n) (h3 : lo < n) :
    (Instr.sliceAt t (.pointer (some ⟨g, 0, none⟩)) (some (.int .i64 x)) (some (.int .i64 y)) none).run P w = .ok (.slice (some ⟨g, lo, none⟩) (hi - lo) (n - lo)) w := by
  subst hx hy
  cases hq : P.info? e with
  | none => simp [hq] at he
  | some i =>
    have hs : i.size = 1 := by simpa [hq] using he
    have hadd : (⟨g, 0, none⟩ : Addr).add lo = ⟨g, lo, none⟩ := by rw [add_mk, Nat.zero_add]
    have hne : ¬ n = lo := by omega
    simp [Instr.sliceAt, Instr.sureAddr, run_underlying hu, Instr.sliceBounds, run_sliceBound, sizeOf, typeInfo, hq, hs, hadd, hne, h1, h2]
/-- an array's variable, whole -/
theorem slice_all {P : Program} (w : World) (t e : TypeId) (n : Nat) (g : Nat) (hu : P.underlying t = some (.array n e)) (he : (P.info? e).map (·.size) = some 1) :
    (Instr.sliceAt t (.pointer (some ⟨g, 0, none⟩)) none none none).run P w = .ok (.slice (some ⟨g, 0, none⟩) n n) w := by
  cases hq : P.info? e with
  | none => simp [hq] at he
  | some i =>
    simp [Instr.sliceAt, Instr.sureAddr, run_underlying hu, Instr.sliceBounds, sizeOf, typeInfo, hq, add_zero']

/-- a result that lies in a variable of its own -/
theorem ret_row {P : Program} {fn : Func} {p : Tmp} {ty : TypeId} {w : World} {tmps : Array Value} {R : Ending → World → Prop} (h : fn.results = #[.cell p ty]) (g : Nat) (t : TypeId) (cs : Array Value) (d : TypeDesc)
    (hp : tmps.getD p undef = .pointer (some ⟨g, 0, none⟩)) (hg : Arr w g t cs)
    (hu : P.underlying ty = some d) (hd : (match d with | .struct _ | .array _ _ => true | _ => false) = true) (hi : (P.info? ty).map (·.size) = some cs.size)
    (hR : R (.returned (.agg cs)) w) : bodyPost P fn R Exit.ret { tmps := tmps, defers := [] } w :=
  bodyPost_ret (v := .agg cs) (results_cell_row h tmps w g t cs (0, 0) d hp hg hu hd hi) rfl hR
end Go.Proofs.Ytlgngnkaiidbeaa
