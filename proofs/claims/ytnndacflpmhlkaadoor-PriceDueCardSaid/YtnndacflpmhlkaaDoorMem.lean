/- Words for memory: worlds that only grow, slices that read as lists, rows of the call's own; laws of append for bytes. -/
import Derived.Test.YtnndacflpmhlkaaDoorProg
import Derived.WalkKit
import Derived.Below
import Derived.LoopTactic
import Derived.RegionTactic
import Derived.OwnWalk
import Derived.Deep.Draws
import Derived.Deep.QuietTactic
import Derived.BigQuiet
import Derived.Outline
import Derived.KernelRfl
import Derived.Lib.Hide
import Derived.Laws.OwnMore
import Derived.Deep.AppendLies
import Derived.Maps.AppendAt
import Derived.WalkLawsBesides
import Derived.WalkSpells
namespace Go.Proofs.YtnndacflpmhlkaaDoor
open Go.RowKit

theorem block_add (a : Addr) (n : Nat) : (a.add n).block = a.block := by unfold Addr.add; split <;> rfl
theorem add_add (a : Addr) (i j : Nat) : (a.add i).add j = a.add (i + j) := by
  unfold Addr.add
  by_cases hi : i = 0 <;> by_cases hj : j = 0 <;> simp [hi, hj, Nat.add_assoc]
theorem add_zero' (a : Addr) : a.add 0 = a := rfl
theorem add_mk (g o n : Nat) : (Addr.add ⟨g, o, none⟩ n) = ⟨g, o + n, none⟩ := by
  unfold Addr.add; split
  · subst_vars; rfl
  · rfl

theorem cell_lt {w : World} {p : Addr} {v : Value} (h : w.cell? p = some v) : p.block < w.heap.size := by
  rcases Nat.lt_or_ge p.block w.heap.size with hl | hg
  · exact hl
  · unfold World.cell? at h
    rw [Array.getElem?_eq_none hg] at h
    cases h

/-- All that was there is as it was. -/
def Ext (w w' : World) : Prop := Below w.heap.size w w'

section ext
variable {w w1 w2 : World}
theorem Ext.refl (w : World) : Ext w w := Below.refl _ _
theorem Ext.trans (h : Ext w w1) (k : Ext w1 w2) : Ext w w2 := Below.trans h (Below.mono k h.size)
theorem Ext.drew (h : Ext w w1) : Ext w w1.drew := Below.drew h
theorem Ext.drewN (h : Ext w w1) (n : Nat) : Ext w (w1.drewN n) := ⟨h.os, h.tape, h.output, h.size, h.block⟩
theorem Ext.alloc (h : Ext w w1) (o : Obj) : Ext w (w1.alloc o) := Below.alloc h h.size o
theorem Ext.setCell (h : Ext w w1) {p : Addr} (hp : w.heap.size ≤ p.block) (u : Value) : Ext w (w1.setCell p u) := Below.setCell h hp u
theorem Ext.size (h : Ext w w1) : w.heap.size ≤ w1.heap.size := Below.size h
theorem Ext.grown {row : Option Nat} (h : Ext w w1) (hg : w1.grownBy w2 row) (hr : ∀ k, row = some k → w.heap.size ≤ k) : Ext w w2 :=
  Below.grown h hg h.size hr
theorem Ext.cell (h : Ext w w1) {p : Addr} {v : Value} (hc : w.cell? p = some v) : w1.cell? p = some v :=
  (Below.cell h (cell_lt hc)).trans hc
theorem Ext.frozen (h : Ext w w1) {p : Addr} (hp : p.block < w.heap.size) : w1.frozen? p = w.frozen? p := Below.frozen h hp
theorem Ext.below (h : Ext w w1) : Below w.heap.size w w1 := h
theorem Ext.block (h : Ext w w1) {g : Nat} {o : Obj} (hb : w.heap[g]? = some o) : w1.heap[g]? = some o := by
  have : g < w.heap.size := by
    rcases Nat.lt_or_ge g w.heap.size with hl | hg
    · exact hl
    · rw [Array.getElem?_eq_none hg] at hb; cases hb
  rw [Below.block h g this]; exact hb
theorem grown_ext (hg : w.grownBy w1 none) : Ext w w1 := Ext.grown (Ext.refl w) hg (fun _ h => by cases h)
end ext

/-- A slice's address reads as these values. -/
def Rd (w : World) (A : Option Addr) (xs : List Value) : Prop :=
  ∀ j u, xs[j]? = some u → ∃ ad, A = some ad ∧ w.cell? (ad.add j) = some u

section rd
variable {w w1 : World} {A : Option Addr} {xs : List Value}
theorem Rd.nil : Rd w A [] := fun j u h => by simp at h
theorem Rd.ext (h : Rd w A xs) (he : Ext w w1) : Rd w1 A xs := fun j u hu =>
  let ⟨ad, ha, hc⟩ := h j u hu; ⟨ad, ha, he.cell hc⟩
theorem Rd.at_ (h : Rd w A xs) {k : Nat} (hk : k < xs.length) : ∃ ad, A = some ad ∧ w.cell? (ad.add k) = some xs[k] :=
  h k _ (List.getElem?_eq_getElem hk)
theorem Rd.take (h : Rd w A xs) (n : Nat) : Rd w A (xs.take n) := fun j u hu => h j u (by
  rw [List.getElem?_take] at hu; split at hu
  · exact hu
  · cases hu)
theorem Rd.drop (h : Rd w A xs) (k : Nat) : Rd w (A.map (·.add k)) (xs.drop k) := fun j u hu => by
  rw [List.getElem?_drop] at hu
  obtain ⟨ad, rfl, hc⟩ := h _ _ hu
  exact ⟨_, rfl, by rw [add_add]; exact hc⟩
theorem Rd.cut (h : Rd w A xs) (k c : Nat) (hc : xs.length ≤ c) : Rd w (if c = k then A else A.map (·.add k)) (xs.drop k) := by
  split
  · subst_vars; rw [List.drop_of_length_le (by omega)]; exact Rd.nil
  · exact h.drop k
theorem Rd.keep {w2 : World} (h : Rd w A xs) (hk : ∀ ad, A = some ad → w2.heap[ad.block]? = w.heap[ad.block]?) : Rd w2 A xs := fun j u hu => by
  obtain ⟨ad, rfl, hc⟩ := h _ _ hu
  refine ⟨ad, rfl, ?_⟩
  rw [World.cell?_of_block (w := w) (by rw [block_add]; exact hk ad rfl)]; exact hc
theorem Rd.grown {row : Option Nat} (h : Rd w A xs) (hg : w.grownBy w1 row) (hr : ∀ ad, A = some ad → some ad.block ≠ row) : Rd w1 A xs := fun j u hu => by
  obtain ⟨ad, rfl, hc⟩ := h _ _ hu
  refine ⟨ad, rfl, ?_⟩
  have hl := cell_lt hc
  rw [block_add] at hl
  rw [World.cell?_of_block (w := w) (by rw [block_add]; exact hg.block _ hl (hr ad rfl))]; exact hc
theorem Rd.of_own {base : Nat} {e : TypeId} {n c : Nat} (h : w.ownsRow base e 1 (.slice A n c) n xs) : Rd w A xs := by
  intro j u hu
  rcases h.2 with ⟨hv, rfl⟩ | ⟨g, cap, cur, hv, _⟩
  · have := h.1
    simp at this
    subst this
    simp at hu
  · injection hv with hA _ _
    subst hA
    exact ⟨_, rfl, h.cells (g := g) rfl j u hu⟩
end rd

/-- A byte as a cell. -/
def bv (b : UInt8) : Value := .int .u8 (b.toNat : Int)
theorem bv_eq (b : UInt8) : bv b = .int .u8 (b.toNat : Int) := rfl

def RdB (w : World) (A : Option Addr) (bs : List UInt8) : Prop := Rd w A (bs.map bv)
section rdb
variable {w w1 : World} {A : Option Addr} {bs : List UInt8}
theorem RdB.nil : RdB w A [] := Rd.nil
theorem RdB.ext (h : RdB w A bs) (he : Ext w w1) : RdB w1 A bs := Rd.ext h he
theorem RdB.at_ (h : RdB w A bs) {k : Nat} (hk : k < bs.length) : ∃ ad, A = some ad ∧ w.cell? (ad.add k) = some (.int .u8 ((bs[k]).toNat : Int)) := by
  obtain ⟨ad, ha, hc⟩ := Rd.at_ h (k := k) (by simpa using hk)
  exact ⟨ad, ha, by simpa [bv] using hc⟩
theorem RdB.take (h : RdB w A bs) (n : Nat) : RdB w A (bs.take n) := by unfold RdB; rw [List.map_take]; exact Rd.take h n
theorem RdB.cut (h : RdB w A bs) (k c : Nat) (hc : bs.length ≤ c) : RdB w (if c = k then A else A.map (·.add k)) (bs.drop k) := by
  unfold RdB; rw [List.map_drop]; exact Rd.cut h k c (by simpa using hc)
theorem RdB.grown {row : Option Nat} (h : RdB w A bs) (hg : w.grownBy w1 row) (hr : ∀ ad, A = some ad → some ad.block ≠ row) : RdB w1 A bs := Rd.grown h hg hr
end rdb

theorem RdB.one (w : World) (X : Int) (E : TypeId) (b : UInt8) (h : X = (b.toNat : Int)) : RdB (w.alloc (.cells #[.int .u8 X] E)) (some ⟨w.heap.size, 0, none⟩) [b] := by
  subst h
  intro j u hu
  exact ⟨_, rfl, cell_one_new w (bv b) E j u hu⟩
/-- The block of a slice's address. -/
def blk (A : Option Addr) : Option Nat := A.map (·.block)
theorem ownBlock_slice (A : Option Addr) (n c : Nat) : (Value.slice A n c).ownBlock = blk A := by cases A <;> rfl

/-- The call returned this value. -/
def RetV (w : World) (v : Value) (e : Ending) (w' : World) : Prop := e = .returned v ∧ Ext w w'

theorem oneCell_bv (bs : List UInt8) : ∀ u ∈ bs.map bv, u.oneCell' = true := by
  intro u hu
  obtain ⟨b, _, rfl⟩ := List.mem_map.1 hu
  rfl

theorem wpList_want {P : Program} {ops : Array Oper} {Q : Exit → Act → World → Prop} {a : Act} {w : World} {rest : List Oper} {o : Oper} (hg : Region.wanted o (yielded ops a.tmps) = true)
    (h : ∀ K : Act → World → Prop, (∀ a w, wpList P ops Q rest a w → K a w) → o.wp P a w K Q) : wpList P ops Q (o :: rest) a w :=
  wpList_step fun K hK => by rw [if_pos hg]; exact h K hK


theorem Rd.of_block {w : World} {g : Nat} {cs : Array Value} {E : TypeId} {fr : Nat × Nat} (h : w.heap[g]? = some (.cells cs E fr)) : Rd w (some ⟨g, 0, none⟩) cs.toList := by
  intro j u hu
  refine ⟨_, rfl, ?_⟩
  rw [add_mk, Nat.zero_add]
  simp only [World.cell?, h]
  simpa using hu
theorem heap_new (w : World) (o : Obj) : (w.alloc o).heap[w.heap.size]? = some o := heap_alloc_new w o
end Go.Proofs.YtnndacflpmhlkaaDoor
