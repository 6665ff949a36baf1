/- The steps of a push: plain lists. -/
import Derived.Test.YtlgngnkaiidbeaaFeedA
import Derived.Test.YtlgngnkaiidbeaaRangeZ
set_option maxRecDepth 100000
set_option linter.unusedVariables false
set_option linter.unusedSimpArgs false
namespace Go.Proofs.Ytlgngnkaiidbeaa
open Go.RowKit

/-- a frame that is handed over, and its size -/
abbrev Fx := Fm × Nat
def usedS : List Fx → Nat
  | [] => 0
  | x :: l => x.2 + usedS l
theorem usedS_snoc (l : List Fx) (x : Fx) : usedS (l ++ [x]) = usedS l + x.2 := by
  induction l with
  | nil => simp [usedS]
  | cons y l ih => simp only [List.cons_append, usedS, ih]; omega
/-- so far within a push -/
structure PuS (all : List UInt8) (pre : List Fx) : Prop where
  pu : PuI dcP all (pre.map (fun x => x.1.pl)) (all.drop (usedS pre))
  le : usedS pre ≤ all.length
theorem PuS.nil (all : List UInt8) : PuS all [] := ⟨by have := PuI.start dcP all; simpa [usedS] using this, Nat.zero_le _⟩
theorem PuS.step {all : List UInt8} {pre : List Fx} (h : PuS all pre) (x : Fx) (hs : fstep dcP (all.drop (usedS pre)) = .one x.1.pl x.2) : PuS all (pre ++ [x]) ∧ usedS (pre ++ [x]) = usedS pre + x.2 ∧ 2 ≤ x.2 := by
  obtain ⟨h1, h2, _⟩ := fstep_one dcP hs
  rw [List.length_drop] at h2
  have h3 := h.pu.step dcP hs
  rw [List.drop_drop] at h3
  refine ⟨⟨by rw [usedS_snoc, List.map_append]; exact h3, by rw [usedS_snoc]; have := h.le; omega⟩, usedS_snoc _ _, h1⟩
theorem PuS.count {all : List UInt8} {pre : List Fx} (h : PuS all pre) : pre.length ≤ all.length := by
  have h1 := fo_cnt dcP all
  have h2 := h.pu.fr
  rw [h2, List.length_append, List.length_map] at h1
  omega
section fst
variable {b : List UInt8}
theorem fs_short (h : b.length < 2) : fstep dcP b = .wait := by unfold fstep; rw [if_pos h]
theorem fs_form (h : 2 ≤ b.length) (h2 : hdN b = 0 ∨ 4096 < hdN b) : fstep dcP b = .bad 2 := by unfold fstep; rw [if_neg (by omega), if_pos h2]
theorem fs_wait (h : 2 ≤ b.length) (h2 : ¬ (hdN b = 0 ∨ 4096 < hdN b)) (h3 : b.length < 2 + hdN b) : fstep dcP b = .wait := by unfold fstep; rw [if_neg (by omega), if_neg h2, if_pos h3]
theorem fs_bad (h : 2 ≤ b.length) (h2 : ¬ (hdN b = 0 ∨ 4096 < hdN b)) (h3 : ¬ b.length < 2 + hdN b) (h4 : (decW (b.take (2 + hdN b))).2 ≠ 0) : fstep dcP b = .bad (decW (b.take (2 + hdN b))).2 := by
  unfold fstep; rw [if_neg (by omega), if_neg h2, if_neg h3]
  exact if_pos h4
theorem fs_one (h : 2 ≤ b.length) (h2 : ¬ (hdN b = 0 ∨ 4096 < hdN b)) (h3 : ¬ b.length < 2 + hdN b) (h4 : (decW (b.take (2 + hdN b))).2 = 0) : fstep dcP b = .one (toP (decW (b.take (2 + hdN b))).1) (2 + hdN b) := by
  unfold fstep; rw [if_neg (by omega), if_neg h2, if_neg h3]
  exact if_neg (fun e => e h4)
end fst
theorem take2_leN {b : List UInt8} (h : 2 ≤ b.length) : leN (takeC (b.take 2) 0 0 2).1 = hdN b := by
  rw [hdN_leN b h]
  unfold takeC
  rw [if_neg (by simp), if_neg (by rw [List.length_take]; omega)]
  simp [List.take_take]
/-- what the iterator itself may change: two blocks of cells -/
structure MvF (gb gf : Nat) (w w' : World) : Prop where
  os : w'.os = w.os
  tape : w'.tape = w.tape
  output : w'.output = w.output
  size : w.heap.size ≤ w'.heap.size
  block : ∀ k, k < w.heap.size → k ≠ gb → k ≠ gf → w'.heap[k]? = w.heap[k]?
  book : ∀ (k : Nat) (o : Obj), w.heap[k]? = some o → o.isCells = false → w'.heap[k]? = some o
section mvf
variable {gb gf : Nat} {w w1 w2 : World}
theorem MvF.refl (w : World) : MvF gb gf w w := ⟨rfl, rfl, rfl, Nat.le_refl _, fun _ _ _ _ => rfl, fun _ _ h _ => h⟩
theorem MvF.trans (h : MvF gb gf w w1) (k : MvF gb gf w1 w2) : MvF gb gf w w2 := ⟨k.os.trans h.os, k.tape.trans h.tape, k.output.trans h.output, Nat.le_trans h.size k.size, fun i hi h1 h2 => (k.block i (Nat.lt_of_lt_of_le hi h.size) h1 h2).trans (h.block i hi h1 h2), fun i o h1 h2 => k.book i o (h.book i o h1 h2) h2⟩
theorem Ext.mvf (h : Ext w w1) : MvF gb gf w w1 := ⟨h.os, h.tape, h.output, h.size, fun i hi _ _ => Below.block h i hi, fun i o h1 _ => h.block h1⟩
theorem MvF.setc {g i : Nat} {t : TypeId} {cs : Array Value} (h : Arr w g t cs) (hg : g = gb ∨ g = gf) (v : Value) : MvF gb gf w (w.setCell ⟨g, i, none⟩ v) := by
  have q := grown_setCell w g i v
  refine ⟨q.os, q.tape, q.output, q.size, fun k hk h1 h2 => q.block k hk (fun e => by injection e with e; rcases hg with rfl | rfl <;> omega), fun k o h1 h2 => ?_⟩
  have hne : k ≠ g := by
    intro e
    subst e
    unfold Arr at h
    rw [h] at h1
    cases h1
    simp [Obj.isCells] at h2
  rw [q.block k (Array.getElem?_eq_some_iff.1 h1).1 (fun e => hne (by injection e))]
  exact h1
end mvf
/-- what a round must keep: three variables of the iterator; the cells below n0 -/
def FK (n0 gb gp gf : Nat) (A B : World) : Prop := (∀ k t cs, (k = gb ∨ k = gp ∨ k = gf) → Arr A k t cs → Arr B k t cs) ∧ ∀ p u, p.block < n0 → A.cell? p = some u → B.cell? p = some u
/-- what is so at a yield -/
def FR (all : List UInt8) (pre : List Fx) (x : Fx) (W0 W : World) : Prop := PuS all pre ∧ fstep dcP (all.drop (usedS pre)) = .one x.1.pl x.2 ∧ OwnB W W0.heap.size x.1.A x.1.c x.1.d
/-- what has come in the end -/
def FS (gf : Nat) (all : List UInt8) (xs : List Fx) (W : World) : Prop := PuS all xs ∧ ∃ (v : Value) (e : Int), Arr W gf 129 #[v, .int .i64 e] ∧ ((fstep dcP (all.drop (usedS xs)) = .wait ∧ e = 0) ∨ (e ≠ 0 ∧ fstep dcP (all.drop (usedS xs)) = .bad e))
def Fx.enc (x : Fx) : Array Value := #[.agg (fmV x.1), .int .i64 (x.2 : Int)]
end Go.Proofs.Ytlgngnkaiidbeaa
