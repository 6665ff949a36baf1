/- Words for memory: worlds that only grow, slices that read as lists, rows of the call's own; laws of append for bytes. -/
import Derived.Test.YtlgngnkaiidbeaaProg
import Derived.WalkKit
import Derived.Below
import Derived.LoopTactic
import Derived.RegionTactic
import Derived.OwnWalk
import Derived.Deep.Draws
import Derived.Deep.QuietTactic
import Derived.BigQuiet
import Derived.Outline
import Derived.KernelRfl
import Derived.Lib.Hide
import Derived.Laws.OwnMore
import Derived.Deep.AppendLies
import Derived.Maps.AppendAt
import Derived.WalkLawsBesides
import Derived.WalkSpells
set_option linter.unusedVariables false
set_option linter.unusedSimpArgs false
namespace Go.Proofs.Ytlgngnkaiidbeaa
open Go.RowKit

theorem block_add (a : Addr) (n : Nat) : (a.add n).block = a.block := by unfold Addr.add; split <;> rfl
theorem add_add (a : Addr) (i j : Nat) : (a.add i).add j = a.add (i + j) := by
  unfold Addr.add
  by_cases hi : i = 0 <;> by_cases hj : j = 0 <;> simp [hi, hj, Nat.add_assoc]
theorem add_zero' (a : Addr) : a.add 0 = a := rfl
theorem add_mk (g o n : Nat) : (Addr.add ⟨g, o, none⟩ n) = ⟨g, o + n, none⟩ := by
  unfold Addr.add; split
  · subst_vars; rfl
  · rfl

theorem cell_lt {w : World} {p : Addr} {v : Value} (h : w.cell? p = some v) : p.block < w.heap.size := by
  rcases Nat.lt_or_ge p.block w.heap.size with hl | hg
  · exact hl
  · unfold World.cell? at h
    rw [Array.getElem?_eq_none hg] at h
    cases h

/-- All that was there is as it was. -/
def Ext (w w' : World) : Prop := Below w.heap.size w w'

section ext
variable {w w1 w2 : World}
theorem Ext.refl (w : World) : Ext w w := Below.refl _ _
theorem Ext.trans (h : Ext w w1) (k : Ext w1 w2) : Ext w w2 := Below.trans h (Below.mono k h.size)
theorem Ext.drew (h : Ext w w1) : Ext w w1.drew := Below.drew h
theorem Ext.drewN (h : Ext w w1) (n : Nat) : Ext w (w1.drewN n) := ⟨h.os, h.tape, h.output, h.size, h.block⟩
theorem Ext.alloc (h : Ext w w1) (o : Obj) : Ext w (w1.alloc o) := Below.alloc h h.size o
theorem Ext.setCell (h : Ext w w1) {p : Addr} (hp : w.heap.size ≤ p.block) (u : Value) : Ext w (w1.setCell p u) := Below.setCell h hp u
theorem Ext.size (h : Ext w w1) : w.heap.size ≤ w1.heap.size := Below.size h
theorem Ext.grown {row : Option Nat} (h : Ext w w1) (hg : w1.grownBy w2 row) (hr : ∀ k, row = some k → w.heap.size ≤ k) : Ext w w2 :=
  Below.grown h hg h.size hr
theorem Ext.cell (h : Ext w w1) {p : Addr} {v : Value} (hc : w.cell? p = some v) : w1.cell? p = some v :=
  (Below.cell h (cell_lt hc)).trans hc
theorem Ext.frozen (h : Ext w w1) {p : Addr} (hp : p.block < w.heap.size) : w1.frozen? p = w.frozen? p := Below.frozen h hp
theorem Ext.below (h : Ext w w1) : Below w.heap.size w w1 := h
theorem Ext.block (h : Ext w w1) {g : Nat} {o : Obj} (hb : w.heap[g]? = some o) : w1.heap[g]? = some o := by
  have : g < w.heap.size := by
    rcases Nat.lt_or_ge g w.heap.size with hl | hg
    · exact hl
    · rw [Array.getElem?_eq_none hg] at hb; cases hb
  rw [Below.block h g this]; exact hb
theorem grown_ext (hg : w.grownBy w1 none) : Ext w w1 := Ext.grown (Ext.refl w) hg (fun _ h => by cases h)
end ext

/-- A slice's address reads as these values. -/
def Rd (w : World) (A : Option Addr) (xs : List Value) : Prop :=
  ∀ j u, xs[j]? = some u → ∃ ad, A = some ad ∧ w.cell? (ad.add j) = some u

section rd
variable {w w1 : World} {A : Option Addr} {xs : List Value}
theorem Rd.nil : Rd w A [] := fun j u h => by simp at h
theorem Rd.ext (h : Rd w A xs) (he : Ext w w1) : Rd w1 A xs := fun j u hu =>
  let ⟨ad, ha, hc⟩ := h j u hu; ⟨ad, ha, he.cell hc⟩
theorem Rd.at_ (h : Rd w A xs) {k : Nat} (hk : k < xs.length) : ∃ ad, A = some ad ∧ w.cell? (ad.add k) = some xs[k] :=
  h k _ (List.getElem?_eq_getElem hk)
theorem Rd.take (h : Rd w A xs) (n : Nat) : Rd w A (xs.take n) := fun j u hu => h j u (by
  rw [List.getElem?_take] at hu; split at hu
  · exact hu
  · cases hu)
theorem Rd.drop (h : Rd w A xs) (k : Nat) : Rd w (A.map (·.add k)) (xs.drop k) := fun j u hu => by
  rw [List.getElem?_drop] at hu
  obtain ⟨ad, rfl, hc⟩ := h _ _ hu
  exact ⟨_, rfl, by rw [add_add]; exact hc⟩
theorem Rd.cut (h : Rd w A xs) (k c : Nat) (hc : xs.length ≤ c) : Rd w (if c = k then A else A.map (·.add k)) (xs.drop k) := by
  split
  · subst_vars; rw [List.drop_of_length_le (by omega)]; exact Rd.nil
  · exact h.drop k
theorem Rd.keep {w2 : World} (h : Rd w A xs) (hk : ∀ ad, A = some ad → w2.heap[ad.block]? = w.heap[ad.block]?) : Rd w2 A xs := fun j u hu => by
  obtain ⟨ad, rfl, hc⟩ := h _ _ hu
  refine ⟨ad, rfl, ?_⟩
  rw [World.cell?_of_block (w := w) (by rw [block_add]; exact hk ad rfl)]; exact hc
theorem Rd.grown {row : Option Nat} (h : Rd w A xs) (hg : w.grownBy w1 row) (hr : ∀ ad, A = some ad → some ad.block ≠ row) : Rd w1 A xs := fun j u hu => by
  obtain ⟨ad, rfl, hc⟩ := h _ _ hu
  refine ⟨ad, rfl, ?_⟩
  have hl := cell_lt hc
  rw [block_add] at hl
  rw [World.cell?_of_block (w := w) (by rw [block_add]; exact hg.block _ hl (hr ad rfl))]; exact hc
theorem Rd.of_own {base : Nat} {e : TypeId} {n c : Nat} (h : w.ownsRow base e 1 (.slice A n c) n xs) : Rd w A xs := by
  intro j u hu
  rcases h.2 with ⟨hv, rfl⟩ | ⟨g, cap, cur, hv, _⟩
  · have := h.1
    simp at this
    subst this
    simp at hu
  · injection hv with hA _ _
    subst hA
    exact ⟨_, rfl, h.cells (g := g) rfl j u hu⟩
end rd

/-- A byte as a cell. -/
def bv (b : UInt8) : Value := .int .u8 (b.toNat : Int)
theorem bv_eq (b : UInt8) : bv b = .int .u8 (b.toNat : Int) := rfl

def RdB (w : World) (A : Option Addr) (bs : List UInt8) : Prop := Rd w A (bs.map bv)
section rdb
variable {w w1 : World} {A : Option Addr} {bs : List UInt8}
theorem RdB.nil : RdB w A [] := Rd.nil
theorem RdB.ext (h : RdB w A bs) (he : Ext w w1) : RdB w1 A bs := Rd.ext h he
theorem RdB.at_ (h : RdB w A bs) {k : Nat} (hk : k < bs.length) : ∃ ad, A = some ad ∧ w.cell? (ad.add k) = some (.int .u8 ((bs[k]).toNat : Int)) := by
  obtain ⟨ad, ha, hc⟩ := Rd.at_ h (k := k) (by simpa using hk)
  exact ⟨ad, ha, by simpa [bv] using hc⟩
theorem RdB.take (h : RdB w A bs) (n : Nat) : RdB w A (bs.take n) := by unfold RdB; rw [List.map_take]; exact Rd.take h n
theorem RdB.cut (h : RdB w A bs) (k c : Nat) (hc : bs.length ≤ c) : RdB w (if c = k then A else A.map (·.add k)) (bs.drop k) := by
  unfold RdB; rw [List.map_drop]; exact Rd.cut h k c (by simpa using hc)
theorem RdB.grown {row : Option Nat} (h : RdB w A bs) (hg : w.grownBy w1 row) (hr : ∀ ad, A = some ad → some ad.block ≠ row) : RdB w1 A bs := Rd.grown h hg hr
end rdb

theorem RdB.one (w : World) (X : Int) (E : TypeId) (b : UInt8) (h : X = (b.toNat : Int)) : RdB (w.alloc (.cells #[.int .u8 X] E)) (some ⟨w.heap.size, 0, none⟩) [b] := by
  subst h
  intro j u hu
  exact ⟨_, rfl, cell_one_new w (bv b) E j u hu⟩
/-- The block of a slice's address. -/
def blk (A : Option Addr) : Option Nat := A.map (·.block)
theorem ownBlock_slice (A : Option Addr) (n c : Nat) : (Value.slice A n c).ownBlock = blk A := by cases A <;> rfl

/-- Bytes in a row of the call's own, from block 'base' on. -/
def OwnB (w : World) (base : Nat) (A : Option Addr) (c : Nat) (bs : List UInt8) : Prop :=
  w.ownsRow base 5 1 (.slice A bs.length c) bs.length (bs.map bv)

section ownb
variable {w w1 : World} {base : Nat} {A : Option Addr} {c : Nat} {bs : List UInt8}
theorem OwnB.nil (w : World) (base : Nat) : OwnB w base none 0 [] := World.ownsRow_nil w base _ _
theorem OwnB.rd (h : OwnB w base A c bs) : RdB w A bs := Rd.of_own h
theorem OwnB.cap (h : OwnB w base A c bs) : bs.length ≤ c := by
  rcases h.2 with ⟨hv, hn⟩ | ⟨g, cap, cur, hv, _, _, hc, _⟩
  · omega
  · injection hv with _ _ h3; omega
theorem OwnB.capmax (h : OwnB w base A c bs) : c ≤ 9223372036854775807 := by
  rcases h.2 with ⟨hv, hn⟩ | ⟨g, cap, cur, hv, _, _, hc, hm, _⟩
  · injection hv with _ _ h3; omega
  · injection hv with _ _ h3; unfold maxLen at hm; omega
theorem OwnB.keep {row : Option Nat} (h : OwnB w base A c bs) (hg : w.grownBy w1 row) (hr : blk A = none ∨ blk A ≠ row) : OwnB w1 base A c bs := by
  refine ⟨h.1, ?_⟩
  rcases h.2 with h2 | ⟨g, cap, cur, hv, hb, hh, r⟩
  · exact Or.inl h2
  · refine Or.inr ⟨g, cap, cur, hv, hb, ?_, r⟩
    injection hv with hA _ _
    subst hA
    have hlt : g < w.heap.size := by
      rcases Nat.lt_or_ge g w.heap.size with hl | hg'
      · exact hl
      · rw [Array.getElem?_eq_none hg'] at hh; cases hh
    have hne : some g ≠ row := by
      rcases hr with h | h
      · simp [blk] at h
      · simpa [blk] using h
    rw [hg.block g hlt hne]
    exact hh
theorem OwnB.ext (h : OwnB w base A c bs) (he : Ext w w1) : OwnB w1 base A c bs := by
  refine ⟨h.1, ?_⟩
  rcases h.2 with h2 | ⟨g, cap, cur, hv, hb, hh, r⟩
  · exact Or.inl h2
  · exact Or.inr ⟨g, cap, cur, hv, hb, he.block hh, r⟩
theorem OwnB.lower {base' : Nat} (h : OwnB w base A c bs) (hb : base' ≤ base) : OwnB w base' A c bs := by
  refine ⟨h.1, ?_⟩
  rcases h.2 with h2 | ⟨g, cap, cur, hv, hb', r⟩
  · exact Or.inl h2
  · exact Or.inr ⟨g, cap, cur, hv, by omega, r⟩
theorem OwnB.base_ (h : OwnB w base A c bs) : ∀ k, blk A = some k → base ≤ k ∧ k < w.heap.size := by
  intro k hk
  have := World.ownsRow.lt h k (by rw [ownBlock_slice]; exact hk)
  exact this
theorem OwnB.apart {w2 : World} {b : Nat} {A2 : Option Addr} {c2 : Nat} {ys : List UInt8} (h : OwnB w base A c bs) (h2 : OwnB w2 b A2 c2 ys) (hb : w.heap.size ≤ b) : blk A = none ∨ blk A ≠ blk A2 := by
  cases hA : blk A with
  | none => exact .inl rfl
  | some k =>
    refine .inr fun he => ?_
    have h3 := h.base_ k hA
    have h4 := h2.base_ k he.symm
    omega
end ownb

/-- The call returned bytes in new memory. -/
def RetB (w : World) (bs : List UInt8) (e : Ending) (w' : World) : Prop :=
  ∃ A c, e = .returned (.slice A bs.length c) ∧ OwnB w' w.heap.size A c bs ∧ Ext w w'
/-- The call returned this value. -/
def RetV (w : World) (v : Value) (e : Ending) (w' : World) : Prop := e = .returned v ∧ Ext w w'

theorem byte_info : (Try.prog.info? 5).map (fun i => (i.zero, i.size, i.bytes)) = some (some (.int .u8 0), 1, 1) := by kernel_rfl

theorem oneCell_bv (bs : List UInt8) : ∀ u ∈ bs.map bv, u.oneCell' = true := by
  intro u hu
  obtain ⟨b, _, rfl⟩ := List.mem_map.1 hu
  rfl

theorem wpList_want {P : Program} {ops : Array Oper} {Q : Exit → Act → World → Prop} {a : Act} {w : World} {rest : List Oper} {o : Oper} (hg : Region.wanted o (yielded ops a.tmps) = true)
    (h : ∀ K : Act → World → Prop, (∀ a w, wpList P ops Q rest a w → K a w) → o.wp P a w K Q) : wpList P ops Q (o :: rest) a w :=
  wpList_step fun K hK => by rw [if_pos hg]; exact h K hK

section laws
variable {ops : Array Oper} {rest : List Oper} {o : Oper} {a : Act} {Q : Exit → Act → World → Prop}

theorem run_app_nil (w : World) (base t ty e : TypeId) (i : TypeInfo) (size : Nat) (ht : Try.prog.underlying t = some (.slice e)) (hi : Try.prog.info? e = some i)
    (v : Value) (n : Nat) (xs : List Value) (hown : w.ownsRow base e size v n xs) (c : Nat) : (Builtin.append_ #[t, t] ty #[v, .slice none 0 c]).run Try.prog w = .ok v w := by
  rcases hown.2 with ⟨rfl, rfl⟩ | ⟨g, cap, cur, rfl, _, _, hnc, _⟩
  · simp [Builtin.append_, run_underlying ht, sizeOf, typeInfo, hi, Builtin.lenOf, Builtin.firstCells]
  · simp [Builtin.append_, run_underlying ht, sizeOf, typeInfo, hi, Builtin.lenOf, Builtin.firstCells, hnc, storeCells]

set_option maxRecDepth 100000 in
theorem run_appB (w : World) (ty : TypeId) (base : Nat) (A : Option Addr) (c : Nat) (xs : List UInt8) (hown : OwnB w base A c xs)
    (B : Option Addr) (d : Nat) (ys : List UInt8) (hr : RdB w B ys) (hl : xs.length + ys.length ≤ 140737488355328) (hbase : base ≤ w.heap.size) :
    ∃ A' c' w', (Builtin.append_ #[27, 27] ty #[.slice A xs.length c, .slice B ys.length d]).run Try.prog w = .ok (.slice A' (xs ++ ys).length c') w' ∧
      OwnB w' base A' c' (xs ++ ys) ∧ w.grownBy w' (blk A) ∧ (blk A' = blk A ∨ blk A' = some w.heap.size) := by
  obtain ⟨i0, hi, hz0, hz1, hz2⟩ := info_parts byte_info
  rcases B with _ | ad
  · have hn : ys = [] := by
      cases ys with
      | nil => rfl
      | cons y l => obtain ⟨ad, h, _⟩ := hr 0 (bv y) (by simp); cases h
    subst hn
    exact ⟨A, c, w, by simpa using run_app_nil w base 27 ty 5 i0 1 Try.underlying27 hi _ _ _ hown d, by simpa using hown, World.grownBy.refl w _, .inl rfl⟩
  · have hcells : ∀ j u, (ys.map bv)[j]? = some u → w.cell? (ad.add j) = some u := by
      intro j u hu
      obtain ⟨ad', h, hc⟩ := hr j u hu
      injection h with h
      subst h
      exact hc
    obtain ⟨v', w', hrun, h2, h3, _, h5⟩ := run_append_own_at (P := Try.prog) w base 27 ty 5 i0 (.int .u8 0) 1 1 Try.underlying27 hi hz0 hz1 hz2 rfl (by omega) _ _ _ hown ad ys.length d _ (by simp) hcells (oneCell_bv ys) (by simp only [maxLen]; omega) (by omega) hbase
    rw [ownBlock_slice] at h3 h5
    have hex : ∃ A' c', v' = .slice A' (xs.length + ys.length) c' := by
      rcases h2.2 with ⟨h, hz⟩ | ⟨g, cap, cur, h, _⟩
      · exact ⟨none, 0, by rw [h, hz]⟩
      · exact ⟨_, _, h⟩
    obtain ⟨A', c', rfl⟩ := hex
    rw [ownBlock_slice] at h5
    refine ⟨A', c', w', by rw [hrun, List.length_append], ?_, h3, h5⟩
    unfold OwnB
    rw [List.length_append, List.map_append]
    exact h2

/-- append(s, x...) on bytes: onto a row of the call's own. -/
theorem appB (w : World) (hgd : Region.wanted o (yielded ops a.tmps) = true) (s x : Operand) (ho : o.op = .call { callee := .builtin .append, args := #[s, x], argTypes := #[27, 27] })
    (base : Nat) (A : Option Addr) (c : Nat) (xs : List UInt8) (hs : a.eval s = .slice A xs.length c)
    (B : Option Addr) (d : Nat) (ys : List UInt8) (hx : a.eval x = .slice B ys.length d)
    (h : ∀ A' c' w', OwnB w' base A' c' (xs ++ ys) → w.grownBy w' (blk A) → (blk A' = blk A ∨ blk A' = some w.heap.size) → wpList Try.prog ops Q rest (a.put o.dst (.slice A' (xs ++ ys).length c')) w')
    (hown : OwnB w base A c xs) (hr : RdB w B ys) (hl : xs.length + ys.length ≤ 140737488355328) (hbase : base ≤ w.heap.size) :
    wpList Try.prog ops Q (o :: rest) a w := by
  refine wpList_want hgd fun K hK => ?_
  obtain ⟨A', c', w', hrun, h2, h3, h4⟩ := run_appB w o.type base A c xs hown B d ys hr hl hbase
  unfold Oper.wp execOp
  simp only [ho, resolve, invoke, builtin, Sem.run_bind, Sem.run_pure, Result.andThen_ok, List.map_toArray, List.map_cons, List.map_nil, hs, hx, hrun]
  exact hK _ _ (h A' c' w' h2 h3 h4)

/-- append([]byte(nil), x...): a copy. -/
theorem cpyB (w : World) (hgd : Region.wanted o (yielded ops a.tmps) = true) (s x : Operand) (ho : o.op = .call { callee := .builtin .append, args := #[s, x], argTypes := #[27, 27] })
    (hs : a.eval s = .slice none 0 0)
    (B : Option Addr) (d : Nat) (ys : List UInt8) (hx : a.eval x = .slice B ys.length d)
    (h : ∀ A' c' w', OwnB w' w.heap.size A' c' ys → Ext w w' → wpList Try.prog ops Q rest (a.put o.dst (.slice A' ys.length c')) w')
    (hr : RdB w B ys) (hl : ys.length ≤ 140737488355328) :
    wpList Try.prog ops Q (o :: rest) a w :=
  appB w hgd s x ho w.heap.size none 0 [] hs B d ys hx
    (fun A' c' w' h1 h2 _ => h A' c' w' (by simpa using h1) (grown_ext h2)) (OwnB.nil _ _) hr (by simpa using hl) (Nat.le_refl _)

theorem OwnB.empty (w : World) : OwnB (w.alloc (.cells #[] 5)) w.heap.size (some ⟨w.heap.size, 0, none⟩) 0 [] :=
  ⟨rfl, .inr ⟨w.heap.size, 0, #[], rfl, Nat.le_refl _, heap_alloc_new w _, Nat.le_refl _, by simp [maxLen], rfl, rfl⟩⟩

/-- append([]byte{}, x...): a copy. -/
theorem cpyE (w : World) (hgd : Region.wanted o (yielded ops a.tmps) = true) (s x : Operand) (ho : o.op = .call { callee := .builtin .append, args := #[s, x], argTypes := #[27, 27] })
    (hs : a.eval s = .slice (some ⟨w.heap.size, 0, none⟩) 0 0)
    (B : Option Addr) (d : Nat) (ys : List UInt8) (hx : a.eval x = .slice B ys.length d)
    (h : ∀ A' c' w', OwnB w' w.heap.size A' c' ys → Ext w w' → wpList Try.prog ops Q rest (a.put o.dst (.slice A' ys.length c')) w')
    (hr : RdB w B ys) (hl : ys.length ≤ 140737488355328) :
    wpList Try.prog ops Q (o :: rest) a (w.alloc (.cells #[] 5)) :=
  appB _ hgd s x ho w.heap.size _ 0 [] hs B d ys hx
    (fun A' c' w' h1 h2 _ => h A' c' w' (by simpa using h1) (((Ext.refl w).alloc _).grown h2 (fun k hk => by simp [blk] at hk; omega))) (OwnB.empty w) (hr.ext ((Ext.refl w).alloc _)) (by simpa using hl) (by simp)

/-- make([]byte, 0, n) -/
theorem makB (w : World) (hgd : Region.wanted o (yielded ops a.tmps) = true) (l c : Operand) (ho : o.op = Op.makeSlice 27 l c) (base : Nat) (kl kc : IntKind) (C : Int) (n : Nat)
    (hl : a.eval l = .int kl 0) (hc : a.eval c = .int kc C)
    (h : ∀ g w', OwnB w' base (some ⟨g, 0, none⟩) n [] → Ext w w' → w.heap.size = g → wpList Try.prog ops Q rest (a.put o.dst (.slice (some ⟨g, 0, none⟩) 0 n)) w')
    (hbase : base ≤ w.heap.size) (hC : C = (n : Int)) (hn : n ≤ 140737488355328) :
    wpList Try.prog ops Q (o :: rest) a w := by
  obtain ⟨i0, hi, hz0, hz1, hz2⟩ := info_parts byte_info
  refine wpList_want hgd fun K hK' => ?_
  obtain ⟨w', hrun, r1, r2⟩ := run_make_own (P := Try.prog) w base 27 5 i0 _ 1 Try.underlying27 hi hz0 hz1 kl kc n (by rw [hz2]; omega) (by simp only [maxLen]; omega) hbase
  subst hC
  unfold Oper.wp
  simp [execOp, ho, hl, hc, hrun, Result.andThen]
  exact hK' _ _ (h _ w' r1 (grown_ext r2) rfl)
end laws

theorem Rd.of_block {w : World} {g : Nat} {cs : Array Value} {E : TypeId} {fr : Nat × Nat} (h : w.heap[g]? = some (.cells cs E fr)) : Rd w (some ⟨g, 0, none⟩) cs.toList := by
  intro j u hu
  refine ⟨_, rfl, ?_⟩
  rw [add_mk, Nat.zero_add]
  simp only [World.cell?, h]
  simpa using hu
theorem heap_new (w : World) (o : Obj) : (w.alloc o).heap[w.heap.size]? = some o := heap_alloc_new w o
end Go.Proofs.Ytlgngnkaiidbeaa
