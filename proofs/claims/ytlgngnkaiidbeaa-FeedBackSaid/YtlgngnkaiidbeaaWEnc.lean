/- Words for wire.Encode and wire.Decode: variables of one cell, a frame's variable, the captured bytes. -/
import Derived.Test.YtlgngnkaiidbeaaWire4
import Derived.Test.YtlgngnkaiidbeaaMemS
import Derived.Test.YtlgngnkaiidbeaaOctet
import Derived.OneCell
import Derived.Deep.RegionWith
import Derived.Deep.RegionHeld3
set_option maxRecDepth 100000
set_option linter.unusedVariables false
set_option linter.unusedSimpArgs false
namespace Go.Proofs.Ytlgngnkaiidbeaa
open Go.RowKit

/-- The captured variable at block p holds a slice of the call's own that reads bs. -/
def BV (w W : World) (p : Nat) (bs : List UInt8) : Prop :=
  ∃ A c, W.heap[p]? = some (.cells #[.slice A bs.length c] 27 (0, 0)) ∧ OwnB W w.heap.size A c bs ∧ Ext w W ∧ w.heap.size ≤ p

theorem own_ne {W : World} {base p : Nat} {A : Option Addr} {c : Nat} {bs : List UInt8} {v : Value} (h : OwnB W base A c bs) (hp : W.heap[p]? = some (.cells #[v] 27 (0, 0))) : blk A ≠ some p := by
  intro hb
  rcases h.2 with ⟨h1, _⟩ | ⟨g, cap, cur, hv, hg, hh, _⟩
  · injection h1 with h1 _ _
    subst h1
    simp [blk] at hb
  · injection hv with h1 _ _
    subst h1
    simp [blk] at hb
    subst hb
    rw [hp] at hh
    simp at hh

theorem BV.put {w W W1 : World} {p : Nat} {bs bs' : List UInt8} {A' : Option Addr} {c' : Nat} (h : BV w W p bs) (e : Ext W W1) (ho : OwnB W1 W.heap.size A' c' bs') :
    BV w (W1.setCell ⟨p, 0, none⟩ (.slice A' bs'.length c')) p bs' ∧ W.grownBy (W1.setCell ⟨p, 0, none⟩ (.slice A' bs'.length c')) (some p) := by
  obtain ⟨A, c, h1, h2, h3, h4⟩ := h
  have hp1 := e.block h1
  have hne := own_ne ho hp1
  have hlow : OwnB W1 w.heap.size A' c' bs' := ho.lower h3.size
  refine ⟨⟨A', c', one_setCell hp1, ownsRow_setCell_other hlow (by rw [ownBlock_slice]; exact hne) _, (h3.trans e).setCell h4 _, h4⟩, ?_⟩
  have hs : (W1.setCell ⟨p, 0, none⟩ (.slice A' bs'.length c')).heap.size = W1.heap.size := by simp
  refine ⟨e.os, e.tape, e.output, by rw [hs]; exact e.size, fun k hk hkp => ?_⟩
  rw [Below.heap_setCell _ _ _ _ (fun e => hkp (by rw [e]))]
  exact e.below.block k hk

theorem free_ext {W W1 : World} {p : Nat} {v : Value} (e : Ext W W1) (hf : W.frozen? ⟨p, 0, none⟩ = false) (hc : W.cell? ⟨p, 0, none⟩ = some v) : W1.frozen? ⟨p, 0, none⟩ = false := by
  rw [e.frozen (p := ⟨p, 0, none⟩) ?_, hf]
  rcases Nat.lt_or_ge p W.heap.size with h | h
  · exact h
  · simp [World.cell?, Array.getElem?_eq_none h] at hc

theorem gb_trans {a b c : World} {r : Option Nat} (h : a.grownBy b r) (k : b.grownBy c r) : a.grownBy c r :=
  ⟨k.os.trans h.os, k.tape.trans h.tape, k.output.trans h.output, Nat.le_trans h.size k.size, fun i hi hr => (k.block i (Nat.lt_of_lt_of_le hi h.size) hr).trans (h.block i hi hr)⟩

section laws
variable {P : Program} {ops : Array Oper} {rest : List Oper} {o : Oper} {a : Act} {Q : Exit → Act → World → Prop}
/-- a variable of one cell, zero -/
theorem alC (w : World) (hgd : o.guard = none) (t : TypeId) (ho : o.op = .alloc t) (v : Value) (n : Nat) (hz : (P.info? t).map (fun i => (i.zero, i.size)) = some (some v, n)) (hv : v.cells = #[v])
    (h : ∀ g w', w.heap.size = g → w'.heap.size = g + 1 → Arr w' g t #[v] → Ext w w' → wpList P ops Q rest (a.put o.dst (.pointer (some ⟨g, 0, none⟩))) w') :
    wpList P ops Q (o :: rest) a w := by
  refine wpList_plain hgd fun K hK => ?_
  unfold Oper.wp execOp
  have := (zero_of_info hz).1 w
  simp [ho, Instr.alloc, newVar, newRow, newObj, hv, this]
  exact hK _ _ (h _ _ rfl (by simp) (Arr.new w t _) ((Ext.refl w).alloc _))
/-- a variable of one cell, written -/
theorem stC (w : World) (hgd : o.guard = none) (t u : TypeId) (x y : Operand) (ho : o.op = .store t x y) (g : Nat) (old v : Value) (hx : a.eval x = .pointer (some ⟨g, 0, none⟩)) (hy : a.eval y = v) (H : Arr w g u #[old])
    (hi : (P.info? t).map (·.size) = some 1) (hv : v.cells = #[v]) (h1 : v.oneCell' = true)
    (h : ∀ w', w'.heap.size = w.heap.size → Arr w' g u #[v] → w.grownBy w' (some g) → wpList P ops Q rest (a.put o.dst undef) w') : wpList P ops Q (o :: rest) a w := by
  refine wpList_plain hgd fun K hK => ?_
  have hr := run_storeVar_row (P := P) w g u t #[old] #[v] H hi rfl (by simp [h1])
  have he : storeVar t ⟨g, 0, none⟩ v = storeVar t ⟨g, 0, none⟩ (.agg #[v]) := by unfold storeVar; rw [hv]; rfl
  unfold Oper.wp execOp
  simp only [ho, hx, hy, Instr.storeAt, Instr.sureAddr, Sem.run_bind, Sem.run_pure, Result.andThen_ok, he, hr]
  exact hK _ _ (h _ (by simp) H.setRow (grown_setRow w g #[v]))
end laws

section laws
variable {P : Program} {ops : Array Oper} {rest : List Oper} {o : Oper} {a : Act} {Q : Exit → Act → World → Prop}
/-- a cell of a variable, written -/
theorem stI (w : World) (hgd : o.guard = none) (t u : TypeId) (x y : Operand) (ho : o.op = .store t x y) (g i : Nat) (cs : Array Value) (v : Value) (hx : a.eval x = .pointer (some ⟨g, i, none⟩)) (hy : a.eval y = v) (H : Arr w g u cs)
    (hi : (P.info? t).map (·.size) = some 1) (hv : v.cells = #[v]) (h1 : v.oneCell' = true) (hlt : i < cs.size)
    (h : ∀ w', w'.heap.size = w.heap.size → Arr w' g u (cs.setIfInBounds i v) → w.grownBy w' (some g) → wpList P ops Q rest (a.put o.dst undef) w') : wpList P ops Q (o :: rest) a w := by
  refine wpList_plain hgd fun K hK => ?_
  have hr := run_storeCells_at P g i u [v] 0 cs w H (by simp; omega) (by simp [h1])
  have hrow : (cs.toList.take (i + 0) ++ [v] ++ cs.toList.drop (i + 0 + [v].length)).toArray = cs.setIfInBounds i v := by
    apply Array.toList_inj.1
    simp [Array.toList_setIfInBounds, List.set_eq_take_append_cons_drop, hlt]
  rw [hrow] at hr
  have he : (storeVar t ⟨g, i, none⟩ v).run P w = .ok () (w.setRow g (cs.setIfInBounds i v)) := by
    cases hq : P.info? t with
    | none => simp [hq] at hi
    | some j =>
      have hs : j.size = 1 := by simpa [hq] using hi
      simp [storeVar, sizeOf, typeInfo, hq, hs, hv, hr]
  unfold Oper.wp execOp
  simp only [ho, hx, hy, Instr.storeAt, Instr.sureAddr, Sem.run_bind, Sem.run_pure, Result.andThen_ok, he]
  exact hK _ _ (h _ (by simp) H.setRow (grown_setRow w g _))
end laws

/-- append(s, x...) on bytes, in a region that draws its order -/
theorem stepB {ops : Array Oper} {o : Oper} {a : Act} {K : Act → World → Prop} {Q : Exit → Act → World → Prop} {E : Prop} (w : World) (hgd : Region.wanted o (yielded ops a.tmps) = true) (s x : Operand) (ho : o.op = .call { callee := .builtin .append, args := #[s, x], argTypes := #[27, 27] })
    (base : Nat) (A : Option Addr) (c : Nat) (xs : List UInt8) (hs : a.eval s = .slice A xs.length c)
    (B : Option Addr) (d : Nat) (ys : List UInt8) (hx : a.eval x = .slice B ys.length d)
    (h : ∀ A' c' w', OwnB w' base A' c' (xs ++ ys) → w.grownBy w' (blk A) → (blk A' = blk A ∨ blk A' = some w.heap.size) → K (a.put o.dst (.slice A' (xs ++ ys).length c')) w')
    (hown : OwnB w base A c xs) (hr : RdB w B ys) (hl : xs.length + ys.length ≤ 140737488355328) (hbase : base ≤ w.heap.size) :
    if Region.wanted o (yielded ops a.tmps) = true then Oper.wp Try.prog o a w K Q else E := by
  rw [if_pos hgd]
  obtain ⟨A', c', w', hrun, h2, h3, h4⟩ := run_appB w o.type base A c xs hown B d ys hr hl hbase
  unfold Oper.wp execOp
  simp only [ho, resolve, invoke, builtin, Sem.run_bind, Sem.run_pure, Result.andThen_ok, List.map_toArray, List.map_cons, List.map_nil, hs, hx, hrun]
  exact h A' c' w' h2 h3 h4
/-- the frame in its variable, the bytes in theirs -/
def EF (w W : World) (g p : Nat) (rec : Array Value) (A : Option Addr) (c : Nat) (bs : List UInt8) : Prop :=
  Ext w W ∧ w.heap.size = g ∧ g < p ∧ Arr W g 65 rec ∧ Arr W p 27 #[.slice A bs.length c] ∧ OwnB W w.heap.size A c bs
theorem EF.next {w W W1 W2 : World} {g p : Nat} {rec : Array Value} {A A' : Option Addr} {c c' : Nat} {bs bs' : List UInt8} (h : EF w W g p rec A c bs) (e : Ext W W1) (ho : OwnB W1 W.heap.size A' c' bs')
    (hg : W1.grownBy W2 (some p)) (ha : Arr W2 p 27 #[.slice A' bs'.length c']) : EF w W2 g p rec A' c' bs' := by
  obtain ⟨h1, h2, h3, h4, h5, h6⟩ := h
  have hne := own_ne ho (h5.ext e)
  exact ⟨(h1.trans e).grown hg (fun k hk => by injection hk with hk; omega), h2, h3, (h4.ext e).grown hg (by intro e; injection e with e; omega), ha, (ho.lower h1.size).keep hg (.inr hne)⟩
theorem EF.app {w W W1 W2 : World} {g p : Nat} {rec : Array Value} {A A' : Option Addr} {c c' : Nat} {bs bs' : List UInt8} (h : EF w W g p rec A c bs) (e : W.grownBy W1 (blk A)) (ho : OwnB W1 w.heap.size A' c' bs')
    (hg : W1.grownBy W2 (some p)) (ha : Arr W2 p 27 #[.slice A' bs'.length c']) : EF w W2 g p rec A' c' bs' := by
  obtain ⟨h1, h2, h3, h4, h5, h6⟩ := h
  have hp : blk A ≠ some p := own_ne h6 h5
  have hge : some g ≠ blk A := by
    intro e
    rcases h6.2 with ⟨hv, _⟩ | ⟨g', cap, cur, hv, _, hh, _⟩
    · injection hv with hA _ _
      subst hA
      simp [blk] at e
    · injection hv with hA _ _
      subst hA
      simp [blk] at e
      subst e
      have h4' : W.heap[g]? = some (.cells rec 65 (0, 0)) := h4
      rw [h4'] at hh
      simp at hh
  have h5' : Arr W1 p 27 #[.slice A bs.length c] := h5.grown e (fun q => hp q.symm)
  exact ⟨(h1.grown e (fun k hk => (h6.base_ k hk).1)).grown hg (fun k hk => by injection hk with hk; omega), h2, h3, (h4.grown e hge).grown hg (by intro e; injection e with e; omega), ha, ho.keep hg (.inr (own_ne ho h5'))⟩
theorem EF.bv {w W : World} {g p : Nat} {rec : Array Value} {A : Option Addr} {c : Nat} {bs : List UInt8} (h : EF w W g p rec A c bs) : BV w W p bs := ⟨A, c, h.2.2.2.2.1, h.2.2.2.2.2, h.1, by have := h.2.1; have := h.2.2.1; omega⟩

theorem EF.cells {w W : World} {g p : Nat} {a0 a1 a2 a3 a4 : Value} {A : Option Addr} {c : Nat} {bs : List UInt8} (h : EF w W g p #[a0, a1, a2, a3, a4] A c bs) :
    W.cell? ⟨g, 0, none⟩ = some a0 ∧ W.cell? ⟨g, 1, none⟩ = some a1 ∧ W.cell? ⟨g, 2, none⟩ = some a2 ∧ W.cell? ⟨g, 3, none⟩ = some a3 ∧ W.cell? ⟨g, 4, none⟩ = some a4 ∧ W.cell? ⟨p, 0, none⟩ = some (.slice A bs.length c) :=
  ⟨h.2.2.2.1.cell 0, h.2.2.2.1.cell 1, h.2.2.2.1.cell 2, h.2.2.2.1.cell 3, h.2.2.2.1.cell 4, h.2.2.2.2.1.cell 0⟩
theorem EF.called {w W W1 : World} {g p : Nat} {fra : Array Value} {A : Option Addr} {c : Nat} {bs bs' : List UInt8} (h : EF w W g p fra A c bs) (hb : BV w W1 p bs') (hg : W.grownBy W1 (some p)) : ∃ A' c', EF w W1 g p fra A' c' bs' := by
  obtain ⟨h1, h2, h3, h4, h5, h6⟩ := h
  obtain ⟨A', c', q1, q2, q3, q4⟩ := hb
  exact ⟨A', c', q3, h2, h3, h4.grown hg (by intro e; injection e with e; omega), q1, q2⟩

theorem zero_bytes : (Try.prog.info? 27).map (fun i => (i.zero, i.size)) = some (some (.slice none 0 0), 1) := by kernel_rfl
theorem size_bytes : (Try.prog.info? 27).map (·.size) = some 1 := by kernel_rfl

def addW (has : Bool) (bs : List UInt8) (width : Int) (n : Nat) : List UInt8 := if has = true then putW bs width n else bs

end Go.Proofs.Ytlgngnkaiidbeaa
