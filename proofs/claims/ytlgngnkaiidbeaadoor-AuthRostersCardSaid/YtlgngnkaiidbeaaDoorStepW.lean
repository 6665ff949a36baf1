/- append on a row of the call's own as a step of a region that draws. -/
import Derived.Test.YtlgngnkaiidbeaaDoorMemV
import Derived.Test.YtlgngnkaiidbeaaDoorArr
import Derived.Test.YtlgngnkaiidbeaaDoorCopyV
import Derived.Deep.RegionHeld3
set_option maxRecDepth 100000
set_option linter.unusedVariables false
set_option linter.unusedSimpArgs false
namespace Go.Proofs.YtlgngnkaiidbeaaDoor
open Go.RowKit
theorem cells_newW (w : World) (t : TypeId) (cs : List Value) : ∀ (j : Nat) (u : Value), cs[j]? = some u → (w.alloc (.cells cs.toArray t)).cell? (Addr.add ⟨w.heap.size, 0, none⟩ j) = some u := by
  intro j u hu
  rw [add_mk, Nat.zero_add]
  exact (Arr.new w t cs.toArray).cell_some (by simpa using hu)
/-- append(s, x...) on a row of the call's own, in a region that draws its order -/
theorem stepW {P : Program} {ops : Array Oper} {o : Oper} {a : Act} {K : Act → World → Prop} {Q : Exit → Act → World → Prop} {E : Prop} (w : World) (hgd : Region.wanted o (yielded ops a.tmps) = true) (s x : Operand) (t : TypeId) (ho : o.op = .call { callee := .builtin .append, args := #[s, x], argTypes := #[t, t] })
    (e : TypeId) (z : Value) (size bytes : Nat) (ht : P.underlying t = some (.slice e)) (hinfo : (P.info? e).map (fun i => (i.zero, i.size, i.bytes)) = some (some z, size, bytes)) (hz : z.cells.size = size) (hsz : 0 < size)
    (base : Nat) (A : Option Addr) (n c : Nat) (xs : List Value) (hs : a.eval s = .slice A n c) (ad : Addr) (m d : Nat) (news : List Value) (hx : a.eval x = .slice (some ad) m d)
    (h : ∀ A' c' w', OwnV w' base e size A' (n + m) c' (xs ++ news) → w.grownBy w' (blk A) → (blk A' = blk A ∨ blk A' = some w.heap.size) → K (a.put o.dst (.slice A' (n + m) c')) w')
    (hown : OwnV w base e size A n c xs) (hl : news.length = m * size) (hnews : ∀ j u, news[j]? = some u → w.cell? (ad.add j) = some u) (h1 : ∀ u ∈ news, u.oneCell' = true)
    (hb : (n + m) * bytes ≤ 140737488355328) (hmx : n + m ≤ 9223372036854775807) (hbase : base ≤ w.heap.size) :
    if Region.wanted o (yielded ops a.tmps) = true then Oper.wp P o a w K Q else E := by
  rw [if_pos hgd]
  obtain ⟨A', c', w', hrun, h2, h3, h4⟩ := run_appV (P := P) w t o.type e z size bytes ht hinfo hz hsz base A n c xs hown ad m d news hl hnews h1 hb hmx hbase
  unfold Oper.wp execOp
  simp only [ho, resolve, invoke, builtin, Sem.run_bind, Sem.run_pure, Result.andThen_ok, List.map_toArray, List.map_cons, List.map_nil, hs, hx, hrun]
  exact h A' c' w' h2 h3 h4
section laws
variable {P : Program} {ops : Array Oper} {rest : List Oper} {o : Oper} {a : Act} {Q : Exit → Act → World → Prop}
/-- a variable made, in a region that draws its order -/
theorem stepAm {K : Act → World → Prop} {E : Prop} (w : World) (hgd : Region.wanted o (yielded ops a.tmps) = true) (t : TypeId) (ho : o.op = .alloc t) (cs : Array Value) (n : Nat) (hz : (P.info? t).map (fun i => (i.zero, i.size)) = some (some (.agg cs), n))
    (h : ∀ g w', w.heap.size = g → w'.heap.size = g + 1 → Arr w' g t cs → Ext w w' → K (a.put o.dst (.pointer (some ⟨g, 0, none⟩))) w') : if Region.wanted o (yielded ops a.tmps) = true then Oper.wp P o a w K Q else E := by
  rw [if_pos hgd]
  unfold Oper.wp execOp
  have := (zero_of_info hz).1 w
  simp [ho, Instr.alloc, newVar, newRow, newObj, Value.cells, this]
  exact h _ _ rfl (by simp) (Arr.new w t cs) ((Ext.refl w).alloc _)
/-- a whole variable written, in a region that draws its order -/
theorem stepSu {K : Act → World → Prop} {E : Prop} (w : World) (hgd : Region.wanted o (yielded ops a.tmps) = true) (t u : TypeId) (x y : Operand) (ho : o.op = .store t x y) (g : Nat) (cs ds : Array Value) (hx : a.eval x = .pointer (some ⟨g, 0, none⟩)) (hy : a.eval y = .agg ds) (H : Arr w g u cs)
    (hi : (P.info? t).map (·.size) = some ds.size) (hs : cs.size = ds.size) (h1 : ∀ v ∈ ds, v.oneCell' = true)
    (h : ∀ w', w'.heap.size = w.heap.size → Arr w' g u ds → w.grownBy w' (some g) → K (a.put o.dst undef) w') : if Region.wanted o (yielded ops a.tmps) = true then Oper.wp P o a w K Q else E := by
  rw [if_pos hgd]
  exact wp_store_row t x y ho g ds hx hy u cs H hi hs (by rw [Array.all_eq_true_iff_forall_mem]; exact h1) (h _ (by simp) H.setRow (grown_setRow w g ds))
end laws
end Go.Proofs.YtlgngnkaiidbeaaDoor
