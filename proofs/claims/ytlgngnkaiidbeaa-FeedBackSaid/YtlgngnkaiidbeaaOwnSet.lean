/- Rows of the call's own: kept where their block is, a cell written. -/
import Derived.Test.YtlgngnkaiidbeaaMemV
import Derived.Test.YtlgngnkaiidbeaaArr
set_option maxRecDepth 100000
set_option linter.unusedVariables false
set_option linter.unusedSimpArgs false
namespace Go.Proofs.Ytlgngnkaiidbeaa
open Go.RowKit

theorem OwnV.same {w w1 : World} {base : Nat} {e : TypeId} {size n c : Nat} {A : Option Addr} {xs : List Value} (h : OwnV w base e size A n c xs) (hk : ∀ k, blk A = some k → w1.heap[k]? = w.heap[k]?) : OwnV w1 base e size A n c xs := by
  refine ⟨h.1, ?_⟩
  rcases h.2 with h2 | ⟨g, cap, cur, hv, hb, hh, r⟩
  · exact .inl h2
  · refine .inr ⟨g, cap, cur, hv, hb, ?_, r⟩
    injection hv with hA _ _
    subst hA
    rw [hk g rfl]; exact hh
theorem OwnB.same {w w1 : World} {base c : Nat} {A : Option Addr} {bs : List UInt8} (h : OwnB w base A c bs) (hk : ∀ k, blk A = some k → w1.heap[k]? = w.heap[k]?) : OwnB w1 base A c bs := OwnV.same h hk
theorem Arr.same {w w1 : World} {g : Nat} {t : TypeId} {cs : Array Value} (h : Arr w g t cs) (hk : w1.heap[g]? = w.heap[g]?) : Arr w1 g t cs := by
  unfold Arr; rw [hk]; exact h
/-- a cell of a row of the call's own, written -/
theorem OwnV.setc {w : World} {base : Nat} {e : TypeId} {size n c g j : Nat} {xs : List Value} (h : OwnV w base e size (some ⟨g, 0, none⟩) n c xs) (hj : j < xs.length) (v : Value) : OwnV (w.setCell ⟨g, j, none⟩ v) base e size (some ⟨g, 0, none⟩) n c (xs.set j v) := by
  refine ⟨by rw [List.length_set]; exact h.1, ?_⟩
  rcases h.2 with ⟨hv, _⟩ | ⟨g', cap, cur, hv, hb, hh, h1, h2, h3, h4⟩
  · injection hv with hA; cases hA
  · have hA : g' = g := by injection hv with hA; injection hA with hA; injection hA with hA; exact hA.symm
    subst hA
    have ha : Arr w g' e cur := hh
    refine .inr ⟨g', cap, cur.setIfInBounds j v, hv, hb, ha.set j v, h1, h2, by simpa using h3, ?_⟩
    rw [Array.toList_setIfInBounds, List.take_set, h4]
theorem OwnV.addr {w : World} {base : Nat} {e : TypeId} {size n c : Nat} {A : Option Addr} {xs : List Value} (h : OwnV w base e size A n c xs) (hn : 0 < n) : ∃ g, A = some ⟨g, 0, none⟩ ∧ ∀ j, w.frozen? ⟨g, j, none⟩ = false := by
  rcases h.2 with ⟨hv, h0⟩ | ⟨g, cap, cur, hv, hb, hh, _⟩
  · omega
  · injection hv with hA
    exact ⟨g, hA, fun j => by have ha : Arr w g e cur := hh; exact ha.frozen j⟩
theorem set_flatO {α : Type} {f : α → List Value} {m : Nat} (hm : ∀ x, (f x).length = m) (xs : List α) (i j : Nat) (hi : i < xs.length) (hj : j < m) (v : Value) (y : α) (hy : (f xs[i]).set j v = f y) : (xs.flatMap f).set (i * m + j) v = (xs.set i y).flatMap f := by
  induction xs generalizing i with
  | nil => simp at hi
  | cons x l ih =>
    cases i with
    | zero =>
      simp only [List.getElem_cons_zero] at hy
      rw [List.flatMap_cons, List.set_cons_zero, List.flatMap_cons, Nat.zero_mul, Nat.zero_add, List.set_append, if_pos (by rw [hm]; exact hj), hy]
    | succ i =>
      rw [List.flatMap_cons, List.set_cons_succ, List.flatMap_cons, List.set_append, if_neg (by rw [hm, Nat.succ_mul]; omega), hm, show (i + 1) * m + j - m = i * m + j by rw [Nat.succ_mul]; omega, ih i (by simpa using hi) (by simpa using hy)]
end Go.Proofs.Ytlgngnkaiidbeaa
