/- The range of feed.Push: what is so between two rounds. -/
import Derived.Test.YtlgngnkaiidbeaaFeedB
import Derived.Test.YtlgngnkaiidbeaaConcatB
set_option maxRecDepth 100000
set_option linter.unusedVariables false
set_option linter.unusedSimpArgs false
namespace Go.Proofs.Ytlgngnkaiidbeaa
open Go.RowKit Go.Shelf

theorem frames_calls (gf : Nat) (A : Option Addr) (n c : Nat) (w : World) :
    Calls Try.prog 86 #[.pointer (some ⟨gf, 0, none⟩), .slice A n c] w fun e w' => e = .returned (.func (.func 116) #[] #[.pointer (some ⟨w.heap.size + 1, 0, none⟩), .pointer (some ⟨w.heap.size, 0, none⟩)]) ∧ w' = (w.alloc (.cells #[.pointer (some ⟨gf, 0, none⟩)] 66)).alloc (.cells #[.slice A n c] 27) := by
  go_enter Try.func86, Try.ntmps86
  go_wp2_with fail
  go_ret
  exact ⟨rfl, rfl⟩

theorem fpush_err (gf : Nat) (r : List UInt8) (er : Int) (v : Value) (w : World) (h : FdW w gf r er) (h0 : er ≠ 0) : Calls Try.prog 41 #[.pointer (some ⟨gf, 0, none⟩), v] w fun e w' => e = .returned (.tuple #[.slice none 0 0, .int .i64 er]) ∧ Ext w w' := by
  obtain ⟨A, c, h1, h2⟩ := h
  have c1 : w.cell? ⟨gf, 1, none⟩ = some (.int .i64 er) := h1.cell 1
  have b1 : (er != 0) = true := by simpa using h0
  clear h1 h2
  go_enter Try.func41, Try.ntmps41
  go_wp2_with fail
  go_region
  go_wp2_with fail
  go_ret2
  exact ⟨rfl, (Ext.refl w).drew⟩

theorem OwnB.ne_row {W : World} {b b2 c n d : Nat} {A A1 : Option Addr} {bs : List UInt8} {xs : List Value} (h : OwnB W b A c bs) (k : OwnV W b2 65 5 A1 n d xs) : blk A = none ∨ blk A ≠ blk A1 := by
  rcases h.2 with ⟨hv, _⟩ | ⟨g, cap, cur, hv, hb, hh, _⟩
  · injection hv with hA; subst hA; exact .inl rfl
  · injection hv with hA
    subst hA
    refine .inr ?_
    rcases k.2 with ⟨kv, _⟩ | ⟨g', cap', cur', kv, kb, kh, _⟩
    · injection kv with kA; subst kA; simp [blk]
    · injection kv with kA
      subst kA
      intro e
      simp [blk] at e
      subst e
      rw [hh] at kh
      simp at kh
theorem KpF.hi {gf : Nat} {w1 W W' : World} {row : Option Nat} (h : KpF gf w1 W) (g : W.grownBy W' row) (hr : ∀ k, row = some k → w1.heap.size ≤ k) : KpF gf w1 W' :=
  ⟨g.os.trans h.os, g.tape.trans h.tape, g.output.trans h.output, Nat.le_trans h.size g.size, fun i hi h1 => (g.block i (Nat.lt_of_lt_of_le hi h.size) (fun e => by have := hr i e.symm; omega)).trans (h.block i hi h1)⟩
theorem KpF.putZ {gf : Nat} {w1 W : World} {l : Nat} {o : Obj} (h : KpF gf w1 W) (hl : w1.heap.size ≤ l) : KpF gf w1 (W.putObj l o) :=
  ⟨h.os, h.tape, h.output, by show _ ≤ (W.putObj l o).heap.size; simp [World.putObj]; exact h.size, fun i hi h1 => (World.putObj_heap_other (by omega)).trans (h.block i hi h1)⟩
theorem KpF.mvf {gb gf : Nat} {w1 W W' : World} (h : KpF gf w1 W) (m : MvF gb gf W W') (hb : w1.heap.size ≤ gb) : KpF gf w1 W' :=
  ⟨m.os.trans h.os, m.tape.trans h.tape, m.output.trans h.output, Nat.le_trans h.size m.size, fun i hi h1 => (m.block i (Nat.lt_of_lt_of_le hi h.size) (by omega) h1).trans (h.block i hi h1)⟩
theorem Arr.mvf {gb gf g : Nat} {W W' : World} {t : TypeId} {cs : Array Value} (h : Arr W g t cs) (m : MvF gb gf W W') (h1 : g ≠ gb) (h2 : g ≠ gf) : Arr W' g t cs := (m.block g h.lt h1 h2).trans h

/-- between two rounds; n is the world's size ahead of the variables: used n, l n + 1, f n + 2, b n + 3 -/
def FV (w1 : World) (gf : Nat) (all : List UInt8) (pre : List Fx) (W : World) : Prop :=
  ∃ A1 c1, Arr W (w1.heap.size + 1) 57 #[.slice A1 pre.length c1] ∧ Arr W w1.heap.size 3 #[.int .i64 (usedS pre : Nat)] ∧ OwnV W (w1.heap.size + 4) 65 5 A1 pre.length c1 (pre.flatMap (fun x => x.1.cs)) ∧
    (∀ x ∈ pre, OwnB W (w1.heap.size + 4) x.1.A x.1.c x.1.d) ∧ KpF gf w1 W ∧ w1.heap.size + 4 ≤ W.heap.size
section fv
variable {w1 : World} {gf : Nat} {all : List UInt8}
theorem FV.mvf {pre : List Fx} {W W' : World} (h : FV w1 gf all pre W) (m : MvF (w1.heap.size + 3) gf W W') (hg : gf < w1.heap.size) : FV w1 gf all pre W' := by
  obtain ⟨A1, c1, a1, a2, ov, hx, hk, hs⟩ := h
  refine ⟨A1, c1, a1.mvf m (by omega) (by omega), a2.mvf m (by omega) (by omega), ov.same (fun k hk' => ?_), fun x hx' => (hx x hx').same (fun k hk' => ?_), hk.mvf m (by omega), Nat.le_trans hs m.size⟩
  · have := ov.base_ k hk'; exact m.block k this.2 (by omega) (by omega)
  · have := (hx x hx').base_ k hk'; exact m.block k this.2 (by omega) (by omega)
theorem FV.ext {pre : List Fx} {W W' : World} (h : FV w1 gf all pre W) (e : Ext W W') (hg : gf < w1.heap.size) : FV w1 gf all pre W' := h.mvf (Ext.mvf e) hg
theorem FV.book {pre : List Fx} (b : Nat) (hb : w1.heap.size ≤ b) : Book b (FV w1 gf all pre) := fun W l o o' h1 h2 h3 h => by
  obtain ⟨A1, c1, a1, a2, ov, hx, hk, hs⟩ := h
  exact ⟨A1, c1, a1.putZ h2 h3, a2.putZ h2 h3, ov.putZ h2 h3, fun x hx' => (hx x hx').putZ h2 h3, hk.putZ (by omega), by show _ ≤ (W.putObj l o').heap.size; simp [World.putObj]; exact hs⟩
theorem grown_setCellZ (w : World) (g i : Nat) (u : Value) : w.grownBy (w.setCell ⟨g, i, none⟩ u) (some g) :=
  ⟨rfl, rfl, rfl, by simp, fun k _ hk => Below.heap_setCell _ _ _ _ (fun e => hk (by rw [e]))⟩
/-- a round: the frame is put behind, its size added -/
theorem FV.step {W0 W W2 W3 : World} {pre : List Fx} {x : Fx} {A1 A2 : Option Addr} {c1 c2 : Nat} {V : Array Value}
    (hs0 : w1.heap.size + 4 ≤ W0.heap.size) (h1 : Arr W (w1.heap.size + 1) 57 #[.slice A1 pre.length c1]) (hv : FV w1 gf all pre W) (hR : OwnB W W0.heap.size x.1.A x.1.c x.1.d) (hgf : gf < w1.heap.size)
    (hg : (W.alloc (.cells V 65)).grownBy W2 (blk A1)) (ho : OwnV W2 (w1.heap.size + 4) 65 5 A2 (pre.length + 1) c2 (pre.flatMap (fun x => x.1.cs) ++ x.1.cs))
    (hs : W3 = (W2.setCell ⟨w1.heap.size + 1, 0, none⟩ (.slice A2 (pre.length + 1) c2)).setCell ⟨w1.heap.size, 0, none⟩ (.int .i64 ((usedS pre + x.2 : Nat) : Int))) :
    FV w1 gf all (pre ++ [x]) W3 ∧ KeepsOthers W W3 ∧ FK w1.heap.size (w1.heap.size + 3) (w1.heap.size + 2) gf W W3 := by
  subst hs
  obtain ⟨B1, d1, y1, y2, yo, yx, yk, ys⟩ := hv
  have hB : B1 = A1 ∧ d1 = c1 := by
    have := y1.symm.trans h1
    simp at this
    exact this
  obtain ⟨rfl, rfl⟩ := hB
  have eA := (Ext.refl W).alloc (.cells V 65)
  have hb0 : ∀ k, blk B1 = some k → w1.heap.size + 4 ≤ k ∧ k < W.heap.size := fun k hk => yo.base_ k hk
  have hn : ∀ k, k < w1.heap.size + 4 → some k ≠ blk B1 := fun k hk e => by have := hb0 k e.symm; omega
  have g1 := (y1.ext eA).grown hg (hn _ (by omega))
  have g2 := (y2.ext eA).grown hg (hn _ (by omega))
  have s1 := (g1.set 0 (.slice A2 (pre.length + 1) c2)).other (h := w1.heap.size) (by omega) 0 (.int .i64 ((usedS pre + x.2 : Nat) : Int))
  have s2 := (g2.other (h := w1.heap.size + 1) (by omega) 0 (.slice A2 (pre.length + 1) c2)).set 0 (.int .i64 ((usedS pre + x.2 : Nat) : Int))
  have hsz := hg.size
  rw [World.size_alloc] at hsz
  have q1 := grown_setCellZ W2 (w1.heap.size + 1) 0 (.slice A2 (pre.length + 1) c2)
  have q2 := grown_setCellZ (W2.setCell ⟨w1.heap.size + 1, 0, none⟩ (.slice A2 (pre.length + 1) c2)) w1.heap.size 0 (.int .i64 ((usedS pre + x.2 : Nat) : Int))
  have hoB := ho.base_
  have hwn : ∀ k, blk A2 = some k → k ≠ w1.heap.size ∧ k ≠ w1.heap.size + 1 := fun k hk => by have := hoB k hk; omega
  have eq2 : ((W2.setCell ⟨w1.heap.size + 1, 0, none⟩ (.slice A2 (pre.length + 1) c2)).setCell ⟨w1.heap.size, 0, none⟩ (.int .i64 ((usedS pre + x.2 : Nat) : Int))).heap.size = W2.heap.size := by simp
  have keepB : ∀ {A : Option Addr} {c : Nat} {d : List UInt8}, OwnB W (w1.heap.size + 4) A c d → OwnB ((W2.setCell ⟨w1.heap.size + 1, 0, none⟩ (.slice A2 (pre.length + 1) c2)).setCell ⟨w1.heap.size, 0, none⟩ (.int .i64 ((usedS pre + x.2 : Nat) : Int))) (w1.heap.size + 4) A c d := by
    intro A c d h
    have hbb := h.base_
    have hne : ∀ m, m < w1.heap.size + 4 → blk A = none ∨ blk A ≠ some m := fun m hm => by
      cases hA : blk A with
      | none => exact .inl rfl
      | some k => exact .inr (fun e => by injection e with e; have := hbb k hA; omega)
    exact (((h.ext eA).keep hg (h.ne_row yo)).keep q1 (hne _ (by omega))).keep q2 (hne _ (by omega))
  refine ⟨⟨A2, c2, by simpa using s1, by rw [usedS_snoc]; simpa using s2, ?_, ?_, (((yk.trans (Ext.kpf eA)).hi hg (fun k hk => by have := hb0 k hk; omega)).hi q1 (fun k hk => by injection hk with hk; omega)).hi q2 (fun k hk => by injection hk with hk; omega), by rw [eq2]; omega⟩, ?_, ?_, ?_⟩
  · have hne : ∀ m, m < w1.heap.size + 4 → blk A2 = none ∨ blk A2 ≠ some m := fun m hm => by
      cases hA : blk A2 with
      | none => exact .inl rfl
      | some k => exact .inr (fun e => by injection e with e; have := hoB k hA; omega)
    have h2 := (ho.keep q1 (hne _ (by omega))).keep q2 (hne _ (by omega))
    rw [List.length_append, List.flatMap_append]
    simpa using h2
  · intro y hy
    rcases List.mem_append.1 hy with hy | hy
    · exact keepB (yx y hy)
    · simp at hy
      subst hy
      exact keepB (hR.lower hs0)
  · refine (KeepsOthers.alloc W _).trans ((KeepsOthers.of_grownBy hg ?_).trans ((KeepsOthers.setCell _ _ _).trans (KeepsOthers.setCell _ _ _)))
    intro j o hj ho'
    rcases (yo.ext eA).2 with ⟨hv', _⟩ | ⟨g, cap, cur, hv', _, hh, _⟩
    · injection hv' with hA _ _
      subst hA
      simp [blk] at hj
    · injection hv' with hA _ _
      subst hA
      simp [blk] at hj
      subst hj
      rw [hh] at ho'
      cases ho'
      rfl
  · intro k t cs hk hA
    have hk4 : k < w1.heap.size + 4 ∧ k ≠ w1.heap.size ∧ k ≠ w1.heap.size + 1 := by omega
    exact ((((hA.ext eA).grown hg (hn _ hk4.1)).other (h := w1.heap.size + 1) hk4.2.2 0 _).other (h := w1.heap.size) hk4.2.1 0 _)
  · intro p u hp hc
    have c1 := eA.cell hc
    have c2 : W2.cell? p = some u := by
      rw [World.cell?_of_block (w := W.alloc (.cells V 65)) (hg.block _ (by have := cell_lt c1; exact this) (hn _ (by omega)))]
      exact c1
    rw [World.cell?_of_block (w := W2) (by rw [Below.heap_setCell _ _ _ _ (by simp; omega), Below.heap_setCell _ _ _ _ (by simp; omega)])]
    exact c2
end fv
end Go.Proofs.Ytlgngnkaiidbeaa
