/- A range over a function whose yields hand over memory: what the iterator has made sure of at a yield (R) is told to the body. -/
import Derived.RangeFuncNested
import Derived.RangeFuncBound
import Derived.RangeFuncCalls
import Derived.RangeFuncLeaves
set_option linter.unusedVariables false
set_option linter.unusedSimpArgs false
namespace Go.Proofs.Ytlgngnkaiidbeaa
open Go.RowKit

/-- the iterator's promise: Mv: its own moves; R: what is so of a thing at its yield (and of the world ahead of its making); Kp: what a round must keep; S: what has come in the end -/
def SeqY {α : Type} (n : Nat) (P : Program) (g : Nat) (lb : Array Value) (encs : α → Array Value) (Mv : World → World → Prop) (R : List α → α → World → World → Prop) (Kp : World → World → Prop) (S : List α → World → Prop) (W : World) : Prop :=
  ∀ (l : Nat) (J : List α → World → Prop), (∀ pre A B, J pre A → Mv A B → J pre B) →
    (∀ pre x A0 A, J pre A0 → Mv A0 A → R pre x A0 A → YieldAt Fence.wide (n - 1) P l (encs x) A fun e B => e = .returned (.bool true) ∧ J (pre ++ [x]) B ∧ Kp A B) →
    J [] W → CallsIn Fence.wide n P g (#[.func (.yield l) #[] #[]] ++ lb) W fun e B => (∃ v, e = .returned v) ∧ ∃ xs, S xs B ∧ J xs B

/-- a property that book-keeping leaves: a block at or beyond b that holds no cells may turn -/
def Book (b : Nat) (I : World → Prop) : Prop := ∀ (W : World) (l : Nat) (o o' : Obj), b ≤ l → W.heap[l]? = some o → o.isCells = false → I W → I (W.putObj l o')

theorem wpIn_rangeY {α : Type} {n : Nat} {P : Program} {g : Operand} {ps : Array Tmp} {assign body : Code} {Q : Exit → Act → World → Prop} {a : Act} {w : World}
    {gf : Nat} {lb : Array Value} (hg : a.eval g = .func (.func gf) #[] lb) (eg : ∀ args w, (callFunc gf args).run P w = .ok (.enter gf args) w)
    {encs : α → Array Value} {Mv : World → World → Prop} {R : List α → α → World → World → Prop} {Kp : World → World → Prop} {S : List α → World → Prop}
    (hseq : ∀ W, Below w.heap.size w W → SeqY (n - 1) P gf lb encs Mv R Kp S W) (hps : ∀ x, (encs x).size = ps.size)
    (hMv : ∀ A B, Mv A B → ∀ k o, w.heap.size ≤ k → A.heap[k]? = some o → o.isCells = false → B.heap[k]? = some o)
    (hKt : ∀ A B C, Kp A B → Kp B C → Kp A C) (hKb : ∀ A, Book w.heap.size (Kp A)) (hKr : ∀ A, Kp A A)
    (hRb : ∀ pre x A0, Book w.heap.size (R pre x A0)) (hSb : ∀ xs, Book w.heap.size (S xs))
    (I : List α → World → Prop) (hIb : ∀ pre, Book w.heap.size (I pre)) (hIm : ∀ pre A B, I pre A → Mv A B → I pre B) (h0 : ∀ W, Below w.heap.size w W → I [] W) (a₁ : α → Act)
    (hassign : ∀ (l : Nat) (x : α) (W : World) (K : Act → World → Prop), K (a₁ x) W →
      assign.wpIn (Fence.wide.inRound l) (n - 1 - 1) P (Exit.then K (fun _ _ _ => False)) { tmps := (ps.zip (encs x)).foldl (fun t (p, v) => t.setIfInBounds p v) a.tmps, defers := [] } W)
    (hbody : ∀ (l : Nat) (pre : List α) (x : α) (W0 W : World), I pre W0 → I pre W → R pre x W0 W → body.wpIn (Fence.wide.inRound l) (n - 1 - 1) P (fun e _ B => e = .normal ∧ KeepsFrom w.heap.size W B ∧ Kp W B ∧ I (pre ++ [x]) B) (a₁ x) W)
    (hdone : ∀ (D : Nat) (xs : List α) (W : World), w.heap.size ≤ D → S xs W → I xs W → W.heap[D]? = some (.deferred (some [])) → Q .normal { a with defers := { target := .collected D, args := #[] } :: a.defers } W) :
    (Code.rangeFunc g ps assign body).wpIn Fence.wide n P Q a w := by
  refine wpIn_rangeFunc fun fn hfn => ?_
  obtain ⟨rec, hrec⟩ : ∃ rec : LoopState → Loop, rec = fun st => { state := st, pending := none, fn, tmps := a.tmps, params := ps, assign, body, defers := w.heap.size } := ⟨_, rfl⟩
  obtain ⟨W1, hW1⟩ : ∃ W1, (w.alloc (.deferred (some []))).alloc (.loop (rec .ready)) = W1 := ⟨_, rfl⟩
  have hb1 : Below w.heap.size w W1 := by rw [← hW1]; exact ((Below.refl _ w).alloc (Nat.le_refl _) _).alloc (by simp) _
  have hL1 : W1.heap[w.heap.size + 1]? = some (.loop (rec .ready)) := by
    rw [← hW1]; have := World.alloc_heap_new (w.alloc (.deferred (some []))) (.loop (rec .ready)); rwa [World.size_alloc] at this
  have hK1 : W1.heap[w.heap.size]? = some (.deferred (some [])) := by
    rw [← hW1]; exact (Below.heap_alloc _ _ _ (by simp)).trans (World.alloc_heap_new w _)
  refine ⟨w.heap.size + 1, [{ target := .collected w.heap.size, args := #[] }], W1, { target := .fn (.func gf) lb, args := #[.func (.yield (w.heap.size + 1)) #[] #[]] }, W1, gf,
    #[.func (.yield (w.heap.size + 1)) #[] #[]] ++ lb, W1, ?_, ?_, fun _ _ => trivial, ?_, fun hd => by simp [Fence.wide] at hd, ?_⟩
  · rw [← hW1, hrec]; exact run_enterLoop_outer _ _ _ _ _
  · simp only [resolve, hg]
    simp [go_sem]
  · simp [invoke, go_sem, eg]
  · refine (hseq W1 hb1 (w.heap.size + 1) (fun pre W => I pre W ∧ W.heap[w.heap.size + 1]? = some (.loop (rec .ready)) ∧ W.heap[w.heap.size]? = some (.deferred (some []))) ?_ ?_ ⟨h0 _ hb1, hL1, hK1⟩).mono ?_
    · rintro pre A B ⟨hi, hl, hk⟩ hm
      exact ⟨hIm _ _ _ hi hm, hMv _ _ hm _ _ (by omega) hl rfl, hMv _ _ hm _ _ (Nat.le_refl _) hk rfl⟩
    · rintro pre x W0 W ⟨hi0, hl0, hk0⟩ hmv hR
      have hi := hIm _ _ _ hi0 hmv
      have hl := hMv _ _ hmv _ _ (by omega) hl0 rfl
      have hk := hMv _ _ hmv _ _ (Nat.le_refl _) hk0 rfl
      have hlt : w.heap.size + 1 < W.heap.size := (Array.getElem?_eq_some_iff.1 hl).1
      have hy := run_yield (P := P) (args := encs x) hl (by rw [hrec]; exact hps x)
      rw [hrec] at hy
      refine ⟨fn, _, assign, body, hy, roundIn_of_wpIn hfn (hassign _ x W _ ⟨_, run_beginRound hl (by rw [hrec]), ?_⟩)⟩
      obtain ⟨W2, hW2⟩ : ∃ W2, W.putObj (w.heap.size + 1) (.loop { rec .ready with state := .busy }) = W2 := ⟨_, rfl⟩
      have hl2 : W2.heap[w.heap.size + 1]? = some (.loop { rec .ready with state := .busy }) := by rw [← hW2]; exact World.putObj_heap_same hlt
      have hk2 : W2.heap[w.heap.size]? = some (.deferred (some [])) := by rw [← hW2]; exact (World.putObj_heap_other (by omega)).trans hk
      have hkp : Kp W W2 := by rw [← hW2]; exact hKb W _ _ _ _ (by omega) hl rfl (hKr W)
      have hi2 : I pre W2 := by rw [← hW2]; exact hIb _ _ _ _ _ (by omega) hl rfl hi
      have hR2 : R pre x W0 W2 := by rw [← hW2]; exact hRb _ _ _ _ _ _ _ (by omega) hl rfl hR
      rw [hW2]
      refine wpIn_mono (hbody _ pre x W0 W2 hi0 hi2 hR2) ?_
      rintro e a3 W3 ⟨rfl, hk3, hkp3, hi3⟩
      have hl3 := hk3.same _ _ (by omega) hl2 rfl
      have hk3' := hk3.same _ _ (Nat.le_refl _) hk2 rfl
      have hend := run_endRound (P := P) none hl3
      rw [hrec] at hend
      refine ⟨_, _, hend, rfl, ⟨hIb _ _ _ _ _ (by omega) hl3 rfl hi3, ?_, (World.putObj_heap_other (by omega)).trans hk3'⟩, hKb W _ _ _ _ (by omega) hl3 rfl (hKt _ _ _ hkp hkp3)⟩
      rw [World.putObj_heap_same (Array.getElem?_eq_some_iff.1 hl3).1, hrec]
      rfl
    · rintro e W2 ⟨⟨v, rfl⟩, xs, hS, hi, hl, hk⟩
      refine ⟨none, _, by have := run_endLoop (P := P) hl (by rw [hrec]; simp); rw [hrec] at this; exact this, ?_⟩
      exact hdone _ xs _ (Nat.le_refl _) (hSb _ _ _ _ _ (by omega) hl rfl hS) (hIb _ _ _ _ _ (by omega) hl rfl hi) ((World.putObj_heap_other (by omega)).trans hk)
end Go.Proofs.Ytlgngnkaiidbeaa
