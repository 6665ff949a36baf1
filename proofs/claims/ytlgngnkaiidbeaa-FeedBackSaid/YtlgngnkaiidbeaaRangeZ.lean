/- As RangeY, where a round's variables lie in memory (a struct that is handed over): the assignment makes memory. -/
import Derived.Test.YtlgngnkaiidbeaaRangeY
import Derived.Test.YtlgngnkaiidbeaaMem
import Derived.RangeFuncNested
import Derived.RangeFuncBound
import Derived.RangeFuncCalls
import Derived.RangeFuncLeaves
set_option linter.unusedVariables false
set_option linter.unusedSimpArgs false
namespace Go.Proofs.Ytlgngnkaiidbeaa
open Go.RowKit

theorem wpIn_rangeZ {α : Type} {n : Nat} {P : Program} {g : Operand} {ps : Array Tmp} {assign body : Code} {Q : Exit → Act → World → Prop} {a : Act} {w : World}
    {gf : Nat} {lb : Array Value} (hg : a.eval g = .func (.func gf) #[] lb) (eg : ∀ args w, (callFunc gf args).run P w = .ok (.enter gf args) w)
    {encs : α → Array Value} {Mv : World → World → Prop} {R : List α → α → World → World → Prop} {Kp : World → World → Prop} {S : List α → World → Prop}
    (hseq : ∀ W, Below w.heap.size w W → SeqY (n - 1) P gf lb encs Mv R Kp S W) (hps : ∀ x, (encs x).size = ps.size)
    (hMv : ∀ A B, Mv A B → ∀ k o, w.heap.size ≤ k → A.heap[k]? = some o → o.isCells = false → B.heap[k]? = some o)
    (hKt : ∀ A B C, Kp A B → Kp B C → Kp A C) (hKb : ∀ A, Book w.heap.size (Kp A)) (hKr : ∀ A, Kp A A)
    (hRb : ∀ pre x A0, Book w.heap.size (R pre x A0)) (hSb : ∀ xs, Book w.heap.size (S xs))
    (I : List α → World → Prop) (hIb : ∀ pre, Book w.heap.size (I pre)) (hIm : ∀ pre A B, I pre A → Mv A B → I pre B) (h0 : ∀ W, Below w.heap.size w W → I [] W) (AY : α → Act → Nat → World → Prop) (hAYb : ∀ x a n, Book w.heap.size (AY x a n)) (hIx : ∀ pre A B, I pre A → Ext A B → I pre B) (hRx : ∀ pre x A0 A B, R pre x A0 A → Ext A B → R pre x A0 B) (hKx : ∀ A B, Ext A B → Kp A B)
    (hassign : ∀ (l : Nat) (x : α) (W : World) (K : Act → World → Prop), (∀ a W', Ext W W' → AY x a W.heap.size W' → K a W') →
      assign.wpIn (Fence.wide.inRound l) (n - 1 - 1) P (Exit.then K (fun _ _ _ => False)) { tmps := (ps.zip (encs x)).foldl (fun t (p, v) => t.setIfInBounds p v) a.tmps, defers := [] } W)
    (hbody : ∀ (l : Nat) (pre : List α) (x : α) (W0 Wa W : World) (a : Act), I pre W0 → I pre Wa → Wa.heap.size ≤ W.heap.size → I pre W → R pre x W0 W → AY x a Wa.heap.size W → body.wpIn (Fence.wide.inRound l) (n - 1 - 1) P (fun e _ B => e = .normal ∧ KeepsFrom w.heap.size W B ∧ Kp W B ∧ I (pre ++ [x]) B) a W)
    (hdone : ∀ (D : Nat) (xs : List α) (W : World), w.heap.size ≤ D → S xs W → I xs W → W.heap[D]? = some (.deferred (some [])) → Q .normal { a with defers := { target := .collected D, args := #[] } :: a.defers } W) :
    (Code.rangeFunc g ps assign body).wpIn Fence.wide n P Q a w := by
  refine wpIn_rangeFunc fun fn hfn => ?_
  obtain ⟨rec, hrec⟩ : ∃ rec : LoopState → Loop, rec = fun st => { state := st, pending := none, fn, tmps := a.tmps, params := ps, assign, body, defers := w.heap.size } := ⟨_, rfl⟩
  obtain ⟨W1, hW1⟩ : ∃ W1, (w.alloc (.deferred (some []))).alloc (.loop (rec .ready)) = W1 := ⟨_, rfl⟩
  have hb1 : Below w.heap.size w W1 := by rw [← hW1]; exact ((Below.refl _ w).alloc (Nat.le_refl _) _).alloc (by simp) _
  have hL1 : W1.heap[w.heap.size + 1]? = some (.loop (rec .ready)) := by
    rw [← hW1]; have := World.alloc_heap_new (w.alloc (.deferred (some []))) (.loop (rec .ready)); rwa [World.size_alloc] at this
  have hK1 : W1.heap[w.heap.size]? = some (.deferred (some [])) := by
    rw [← hW1]; exact (Below.heap_alloc _ _ _ (by simp)).trans (World.alloc_heap_new w _)
  refine ⟨w.heap.size + 1, [{ target := .collected w.heap.size, args := #[] }], W1, { target := .fn (.func gf) lb, args := #[.func (.yield (w.heap.size + 1)) #[] #[]] }, W1, gf,
    #[.func (.yield (w.heap.size + 1)) #[] #[]] ++ lb, W1, ?_, ?_, fun _ _ => trivial, ?_, fun hd => by simp [Fence.wide] at hd, ?_⟩
  · rw [← hW1, hrec]; exact run_enterLoop_outer _ _ _ _ _
  · simp only [resolve, hg]
    simp [go_sem]
  · simp [invoke, go_sem, eg]
  · refine (hseq W1 hb1 (w.heap.size + 1) (fun pre W => I pre W ∧ W.heap[w.heap.size + 1]? = some (.loop (rec .ready)) ∧ W.heap[w.heap.size]? = some (.deferred (some []))) ?_ ?_ ⟨h0 _ hb1, hL1, hK1⟩).mono ?_
    · rintro pre A B ⟨hi, hl, hk⟩ hm
      exact ⟨hIm _ _ _ hi hm, hMv _ _ hm _ _ (by omega) hl rfl, hMv _ _ hm _ _ (Nat.le_refl _) hk rfl⟩
    · rintro pre x W0 W ⟨hi0, hl0, hk0⟩ hmv hR
      have hi := hIm _ _ _ hi0 hmv
      have hl := hMv _ _ hmv _ _ (by omega) hl0 rfl
      have hk := hMv _ _ hmv _ _ (Nat.le_refl _) hk0 rfl
      have hlt : w.heap.size + 1 < W.heap.size := (Array.getElem?_eq_some_iff.1 hl).1
      have hy := run_yield (P := P) (args := encs x) hl (by rw [hrec]; exact hps x)
      rw [hrec] at hy
      refine ⟨fn, _, assign, body, hy, roundIn_of_wpIn hfn (hassign _ x W _ ?_)⟩
      intro a1 Wb hE hay
      have hlb := hE.block hl
      have hkb := hE.block hk
      have hltb : w.heap.size + 1 < Wb.heap.size := (Array.getElem?_eq_some_iff.1 hlb).1
      refine ⟨_, run_beginRound hlb (by rw [hrec]), ?_⟩
      obtain ⟨W2, hW2⟩ : ∃ W2, Wb.putObj (w.heap.size + 1) (.loop { rec .ready with state := .busy }) = W2 := ⟨_, rfl⟩
      have hl2 : W2.heap[w.heap.size + 1]? = some (.loop { rec .ready with state := .busy }) := by rw [← hW2]; exact World.putObj_heap_same hltb
      have hk2 : W2.heap[w.heap.size]? = some (.deferred (some [])) := by rw [← hW2]; exact (World.putObj_heap_other (by omega)).trans hkb
      have hkp : Kp W W2 := by rw [← hW2]; exact hKb W _ _ _ _ (by omega) hlb rfl (hKx _ _ hE)
      have hi2 : I pre W2 := by rw [← hW2]; exact hIb _ _ _ _ _ (by omega) hlb rfl (hIx _ _ _ hi hE)
      have hR2 : R pre x W0 W2 := by rw [← hW2]; exact hRb _ _ _ _ _ _ _ (by omega) hlb rfl (hRx _ _ _ _ _ hR hE)
      have hay2 : AY x a1 W.heap.size W2 := by rw [← hW2]; exact hAYb _ _ _ _ _ _ _ (by omega) hlb rfl hay
      have hsz : W.heap.size ≤ W2.heap.size := by rw [← hW2]; simp [World.putObj]; exact hE.size
      rw [hW2]
      refine wpIn_mono (hbody _ pre x W0 W W2 a1 hi0 hi hsz hi2 hR2 hay2) ?_
      rintro e a3 W3 ⟨rfl, hk3, hkp3, hi3⟩
      have hl3 := hk3.same _ _ (by omega) hl2 rfl
      have hk3' := hk3.same _ _ (Nat.le_refl _) hk2 rfl
      have hend := run_endRound (P := P) none hl3
      rw [hrec] at hend
      refine ⟨_, _, hend, rfl, ⟨hIb _ _ _ _ _ (by omega) hl3 rfl hi3, ?_, (World.putObj_heap_other (by omega)).trans hk3'⟩, hKb W _ _ _ _ (by omega) hl3 rfl (hKt _ _ _ hkp hkp3)⟩
      rw [World.putObj_heap_same (Array.getElem?_eq_some_iff.1 hl3).1, hrec]
      rfl
    · rintro e W2 ⟨⟨v, rfl⟩, xs, hS, hi, hl, hk⟩
      refine ⟨none, _, by have := run_endLoop (P := P) hl (by rw [hrec]; simp); rw [hrec] at this; exact this, ?_⟩
      exact hdone _ xs _ (Nat.le_refl _) (hSb _ _ _ _ _ (by omega) hl rfl hS) (hIb _ _ _ _ _ (by omega) hl rfl hi) ((World.putObj_heap_other (by omega)).trans hk)
end Go.Proofs.Ytlgngnkaiidbeaa
