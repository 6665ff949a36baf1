/- The contract of box.Valid: a range over box.boxes. -/
import Derived.Test.YtjbejaieihchmaaRangeY
import Derived.Test.YtjbejaieihchmaaBoxR
import Derived.Shelf.Abstract
import Derived.Shelf.RegionOpen
import Derived.OwnWalkIn
import Derived.TacticsInMore
import Derived.LoopNIn
import Derived.LoopIn
import Derived.Maps.AppendAt
import Derived.Maps.OwnIn
set_option maxRecDepth 100000
namespace Go.Proofs.Ytjbejaieihchmaa
open Go.RowKit Go.Shelf
attribute [local go_sem] Oper.semAt_some

/-- a box that is handed over: its bytes in memory, the place behind -/
structure Bx where
  A : Option Addr
  c : Nat
  bs : List UInt8
  nx : Nat
def Bx.enc (x : Bx) : Array Value := #[.slice x.A x.bs.length x.c, .int .i64 x.nx]
def Bx.v (x : Bx) : Value := .slice x.A x.bs.length x.c

/-- what is so at a yield -/
def bxR (bs : List UInt8) (pre : List Bx) (x : Bx) (W0 W : World) : Prop :=
  pre.map (·.bs) = (itB bs pre.length).1 ∧ nextK bs (itB bs pre.length).2 = (x.bs, (x.nx : Int), 0) ∧ OwnB W W0.heap.size x.A x.c x.bs ∧ ∀ p u, W0.cell? p = some u → W.cell? p = some u
def bxS (bs : List UInt8) (xs : List Bx) (_ : World) : Prop :=
  xs.map (·.bs) = (itB bs xs.length).1 ∧ (nextK bs (itB bs xs.length).2).2.2 ≠ 0
/-- the cells below n0, and those of block gb, are as they were -/
def bxK (n0 gb : Nat) (A B : World) : Prop := ∀ p u, (p.block < n0 ∨ p.block = gb) → A.cell? p = some u → B.cell? p = some u

theorem cell_put {W : World} {l : Nat} {o o' : Obj} {p : Addr} {u : Value} (h : W.heap[l]? = some o) (ho : o.isCells = false) (hc : W.cell? p = some u) : (W.putObj l o').cell? p = some u := by
  have hne : p.block ≠ l := by
    intro e
    unfold World.cell? at hc
    rw [e, h] at hc
    cases o <;> simp [Obj.isCells] at ho hc
  rw [World.cell?_of_block (w := W) (World.putObj_heap_other hne)]
  exact hc

theorem bxK_book (n0 gb b : Nat) (A : World) : Book b (bxK n0 gb A) := fun W l o o' _ h2 h3 h p u hp hc => cell_put h2 h3 (h p u hp hc)
theorem ownB_put {W : World} {l : Nat} {o o' : Obj} {base : Nat} {A : Option Addr} {c : Nat} {bs : List UInt8} (h : W.heap[l]? = some o) (ho : o.isCells = false) (hw : OwnB W base A c bs) : OwnB (W.putObj l o') base A c bs := by
  refine ⟨hw.1, ?_⟩
  rcases hw.2 with h2 | ⟨g, cap, cur, hv, hb, hh, r⟩
  · exact .inl h2
  · refine .inr ⟨g, cap, cur, hv, hb, ?_, r⟩
    have hne : g ≠ l := by
      intro e
      subst e
      rw [hh] at h
      cases h
      simp [Obj.isCells] at ho
    rw [World.putObj_heap_other hne]
    exact hh
theorem bxR_book (b : Nat) (bs : List UInt8) (pre : List Bx) (x : Bx) (W0 : World) : Book b (bxR bs pre x W0) := fun W l o o' _ h2 h3 h => ⟨h.1, h.2.1, ownB_put h2 h3 h.2.2.1, fun p u hc => cell_put h2 h3 (h.2.2.2 p u hc)⟩
theorem bxS_book (b : Nat) (bs : List UInt8) (xs : List Bx) : Book b (bxS bs xs) := fun _ _ _ _ _ _ _ h => h

theorem itB_snoc {bs : List UInt8} {pre : List Bx} {x : Bx} (h1 : pre.map (·.bs) = (itB bs pre.length).1) (h2 : nextK bs (itB bs pre.length).2 = (x.bs, (x.nx : Int), 0)) :
    (pre ++ [x]).map (·.bs) = (itB bs (pre ++ [x]).length).1 ∧ (itB bs (pre ++ [x]).length).2 = x.nx := by
  have hm := itB_more bs pre.length (by rw [h2])
  rw [List.length_append, List.length_singleton, hm, h2]
  simp [h1]

set_option maxHeartbeats 2000000 in
theorem boxes1_seq (n gb n0 : Nat) (A : Option Addr) (c : Nat) (bs : List UInt8) (hl : bs.length ≤ 100000) (hcap : bs.length ≤ c) (hcm : c ≤ 9223372036854775807) (W : World)
    (hcell : W.cell? ⟨gb, 0, none⟩ = some (.slice A bs.length c)) (hb : RdB W A bs) (hA : ∀ k, blk A = some k → k < n0 ∨ bs = []) :
    SeqY n Try.prog 48 #[.pointer (some ⟨gb, 0, none⟩)] Bx.enc Ext (bxR bs) (bxK n0 gb) (bxS bs) W := fun l J hJ hY h0 => by
  refine callsIn_of_wp Try.func48 rfl trivial ?_ rfl
  simp only [Try.ntmps48, List.size_toArray, List.length_cons, List.length_nil, Nat.reduceAdd, Nat.reduceSub, Array.replicate_succ, Array.replicate_zero, List.push_toArray, List.append_toArray, List.nil_append, List.cons_append]
  have Hb := Lib.hid hb
  have HA := Lib.hid hA
  have HY := Lib.hid hY
  have HJ := Lib.hid hJ
  have HC := Lib.hid hcell
  clear hb hA hY hJ hcell
  gi_wp2
  gi_loopw [3] (fun a wr => ∃ pre : List Bx, a = .int .i64 (itB bs pre.length).2 ∧ pre.map (·.bs) = (itB bs pre.length).1 ∧ J pre wr ∧ bxK n0 gb W wr) (fun a _ => bs.length - (intOf a).toNat)
  case atStart => exact ⟨[], rfl, rfl, h0, fun _ _ _ h => h⟩
  case round =>
    obtain ⟨pre, rfl, hm, hj, hk⟩ := hrel
    have HM := Lib.hid hm
    have HJp := Lib.hid hj
    have HK := Lib.hid hk
    have hcell := hk _ _ (.inr rfl) HC.out
    have Rb : Hid (RdB wr A bs) := fun j u hj' => by
      obtain ⟨ad, ha, hc⟩ := Hb.out j u hj'
      rcases HA.out _ (show blk A = some ad.block by rw [ha]; rfl) with h1 | h1
      · exact ⟨ad, ha, hk _ _ (.inl (by rw [block_add]; exact h1)) hc⟩
      · subst h1; simp at hj'
    clear hm hj hk
    have hle := itB_le bs pre.length
    have HNX : Hid (∀ w', Ext wr w' → Calls Try.prog 40 #[.slice A bs.length c, .int .i64 (itB bs pre.length).2] w' (RetB3 w' (nextK bs (itB bs pre.length).2).1 (.int .i64 (nextK bs (itB bs pre.length).2).2.1) (.int .i64 (nextK bs (itB bs pre.length).2).2.2))) :=
      fun w' e => next_k A c bs (itB bs pre.length).2 w' (Rb.out.ext e) (by omega) hcap hcm hle
    have HOK := Lib.hid (@next_ok bs (itB bs pre.length).2)
    generalize hI : (itB bs pre.length).2 = at_ at *
    have HI := Lib.hid hI
    clear hI
    generalize hX : nextK bs at_ = X at *
    have HX := Lib.hid hX
    clear hX
    obtain ⟨body, en, er⟩ := X
    dsimp only at *
    gi_wp2_with fail
    refine ⟨trivial, fun hd => by simp [Fence.wide] at hd, (callsIn_wide.2 (HNX.out _ (Ext.refl _))).mono ?_⟩
    rintro e w1 ⟨A1, c1, rfl, o1, e1⟩
    have O1 := Lib.hid o1
    have E1 := Lib.hid e1
    clear o1 e1
    by_cases h0 : er = 0
    · subst h0
      obtain ⟨m, hm1, hm2, hm3, hm4, hm5, hm6⟩ := HOK.out rfl
      obtain ⟨nx, hnx⟩ : ∃ nx, nx = at_ + m + 6 := ⟨_, rfl⟩
      rw [← hnx] at hm3
      subst hm3
      have HNx := Lib.hid hnx
      clear hnx
      have hR : bxR bs pre ⟨A1, c1, body, nx⟩ wr w1 := ⟨HM.out, by rw [HI.out, HX.out], O1.out, fun p u hc => E1.out.cell hc⟩
      have HS := Lib.hid (itB_snoc hR.1 hR.2.1)
      obtain ⟨fn, tmps, assign, bodyc, hy, hRd⟩ := HY.out pre ⟨A1, c1, body, nx⟩ wr w1 HJp.out E1.out hR
      clear hR hm5 hm6
      simp only [Bx.enc] at hy
      gi_wp2_with fail
      refine ⟨fun hd => by simp [Fence.wide] at hd, hRd.mono ?_⟩
      rintro e w2 ⟨rfl, j2, k2⟩
      have J2 := Lib.hid j2
      have K2 : Hid (bxK n0 gb W w2) := fun p u hp hc => k2 p u hp (E1.out.cell (HK.out p u hp hc))
      clear j2 k2
      gi_wp2_with fail
      go_roundw
      case rel => exact ⟨pre ++ [⟨A1, c1, body, nx⟩], by rw [HS.out.2], HS.out.1, J2.out, K2.out⟩
      case measure => have := HNx.out; simp [intOf]; omega
    · have b1 : (er != 0) = true := by simpa using h0
      have H0 := Lib.hid h0
      clear h0
      gi_wp2_with fail
      refine ⟨fun _ h => (by cases h), ?_⟩
      gi_wp2_with fail
      refine bodyPost_ret (results_none rfl _ _ _) rfl ?_
      exact ⟨⟨_, rfl⟩, pre, ⟨HM.out, by rw [HI.out, HX.out]; exact H0.out⟩, HJ.out _ _ _ HJp.out E1.out⟩

theorem grown_setCellY (w : World) (g i : Nat) (u : Value) : w.grownBy (w.setCell ⟨g, i, none⟩ u) (some g) :=
  ⟨rfl, rfl, rfl, by simp, fun k _ hk => Below.heap_setCell _ _ _ _ (fun e => hk (by rw [e]))⟩

theorem boxes_calls (A : Option Addr) (n c : Nat) (w : World) :
    Calls Try.prog 47 #[.slice A n c] w fun e w' => e = .returned (.func (.func 48) #[] #[.pointer (some ⟨w.heap.size, 0, none⟩)]) ∧ w' = w.alloc (.cells #[.slice A n c] 22) := by
  go_enter Try.func47, Try.ntmps47
  go_wp2_with fail
  go_ret
  exact ⟨rfl, rfl⟩

/-- between two rounds: the list's variable (block s), the place's (s + 1), the bytes' (s + 2), the list's row, the bytes of each box -/
def VI (w : World) (A : Option Addr) (c : Nat) (bs : List UInt8) (pre : List Bx) (W : World) : Prop :=
  ∃ A1 c1, Arr W w.heap.size 59 #[.slice A1 pre.length c1] ∧ Arr W (w.heap.size + 1) 3 #[.int .i64 (itB bs pre.length).2] ∧ Arr W (w.heap.size + 2) 22 #[.slice A bs.length c] ∧
    OwnV W (w.heap.size + 3) 22 1 A1 pre.length c1 (pre.map Bx.v) ∧ (∀ x ∈ pre, ElB W x.v x.bs ∧ ∀ k, blk x.A = some k → w.heap.size + 3 ≤ k ∧ k < W.heap.size ∧ some k ≠ blk A1) ∧ Ext w W ∧ w.heap.size + 3 ≤ W.heap.size ∧ pre.map (·.bs) = (itB bs pre.length).1

theorem Ext.putObj {w W : World} {l : Nat} {o o' : Obj} (h : Ext w W) (hl : w.heap.size ≤ l) (ho : W.heap[l]? = some o) : Ext w (W.putObj l o') :=
  h.grown (grownBy_putObj' W l o') (fun k e => by cases e; exact hl)
theorem Arr.putObj {W : World} {g : Nat} {t : TypeId} {cs : Array Value} {l : Nat} {o o' : Obj} (h : Arr W g t cs) (ho : W.heap[l]? = some o) (hc : o.isCells = false) : Arr (W.putObj l o') g t cs := by
  have hne : g ≠ l := by
    intro e
    subst e
    unfold Arr at h
    rw [h] at ho
    cases ho
    simp [Obj.isCells] at hc
  unfold Arr
  rw [World.putObj_heap_other hne]
  exact h
theorem OwnV.putObj {W : World} {base : Nat} {e : TypeId} {size : Nat} {A : Option Addr} {n c : Nat} {xs : List Value} {l : Nat} {o o' : Obj} (hw : OwnV W base e size A n c xs) (h : W.heap[l]? = some o) (ho : o.isCells = false) : OwnV (W.putObj l o') base e size A n c xs := by
  refine ⟨hw.1, ?_⟩
  rcases hw.2 with h2 | ⟨g, cap, cur, hv, hb, hh, r⟩
  · exact .inl h2
  · refine .inr ⟨g, cap, cur, hv, hb, ?_, r⟩
    have hne : g ≠ l := by
      intro e
      subst e
      rw [hh] at h
      cases h
      simp [Obj.isCells] at ho
    rw [World.putObj_heap_other hne]
    exact hh
theorem ElB.putObj {W : World} {v : Value} {bs : List UInt8} {l : Nat} {o o' : Obj} (hw : ElB W v bs) (h : W.heap[l]? = some o) (ho : o.isCells = false) : ElB (W.putObj l o') v bs := hw.kept (fun _ _ hc => cell_put h ho hc)
theorem size_putObj (W : World) (l : Nat) (o : Obj) : (W.putObj l o).heap.size = W.heap.size := by simp [World.putObj]

theorem VI.book {w : World} {A : Option Addr} {c : Nat} {bs : List UInt8} (b : Nat) (hb : w.heap.size ≤ b) (pre : List Bx) : Book b (VI w A c bs pre) := fun W l o o' h1 h2 h3 h => by
  obtain ⟨A1, c1, a1, a2, a3, ov, he, hx, hs, hm⟩ := h
  exact ⟨A1, c1, a1.putObj h2 h3, a2.putObj h2 h3, a3.putObj h2 h3, ov.putObj h2 h3, fun x hx' => ⟨(he x hx').1.putObj h2 h3, fun k hk => by rw [size_putObj]; exact (he x hx').2 k hk⟩, hx.putObj (by omega) h2, by rw [size_putObj]; exact hs, hm⟩
theorem VI.ext {w W W1 : World} {A : Option Addr} {c : Nat} {bs : List UInt8} {pre : List Bx} (h : VI w A c bs pre W) (e : Ext W W1) : VI w A c bs pre W1 := by
  obtain ⟨A1, c1, a1, a2, a3, ov, he, hx, hs, hm⟩ := h
  exact ⟨A1, c1, a1.ext e, a2.ext e, a3.ext e, ov.ext e, fun x hx' => ⟨(he x hx').1.ext e, fun k hk => by have h9 := (he x hx').2 k hk; have := e.size; exact ⟨by omega, by omega, h9.2.2⟩⟩, hx.trans e, by have := e.size; omega, hm⟩

theorem info_bytesY : (Try.prog.info? 22).map (fun i => (i.zero, i.size, i.bytes)) = some (some (.slice none 0 0), 1, 24) := by kernel_rfl

theorem ElB.grownY {w w1 : World} {A : Option Addr} {c : Nat} {bs bs' : List UInt8} {row : Option Nat} (h : ElB w (.slice A bs.length c) bs') (hg : w.grownBy w1 row) (hb : ∀ k, blk A = some k → some k ≠ row) : ElB w1 (.slice A bs.length c) bs' := by
  obtain ⟨B, d, hv, hr, hc⟩ := h
  injection hv with h1 h2 h3
  subst h1
  exact ⟨A, d, by rw [h2, h3], hr.grown hg (fun ad ha => by subst ha; exact hb _ rfl), hc⟩

/-- a round: the box is put behind, the place is moved -/
theorem VI.step {w W0 W W2 W3 : World} {A : Option Addr} {c : Nat} {bs : List UInt8} {pre : List Bx} {x : Bx} {A1 A2 : Option Addr} {c1 c2 : Nat}
    (h0 : VI w A c bs pre W0) (h1 : Arr W w.heap.size 59 #[.slice A1 pre.length c1]) (hv : VI w A c bs pre W) (hR : bxR bs pre x W0 W)
    (hg : (W.alloc (.cells #[x.v] 22)).grownBy W2 (blk A1)) (ho : OwnV W2 (w.heap.size + 3) 22 1 A2 (pre.length + 1) c2 (pre.map Bx.v ++ [x.v]))
    (hb : blk A2 = blk A1 ∨ blk A2 = some (W.heap.size + 1))
    (hs : W3 = (W2.setCell ⟨w.heap.size, 0, none⟩ (.slice A2 (pre.length + 1) c2)).setCell ⟨w.heap.size + 1, 0, none⟩ (.int .i64 x.nx)) :
    VI w A c bs (pre ++ [x]) W3 ∧ KeepsOthers W W3 ∧ bxK w.heap.size (w.heap.size + 2) W W3 := by
  subst hs
  obtain ⟨B0, d0, z1, _, _, zo, _, zx, zs, _⟩ := h0
  obtain ⟨B1, d1, y1, y2, y3, yo, ye, yx, ys, ym⟩ := hv
  have hB : B1 = A1 ∧ d1 = c1 := by
    have := y1.symm.trans h1
    simp at this
    exact this
  obtain ⟨rfl, rfl⟩ := hB
  have hB0 : B0 = B1 := by
    have h9 := hR.2.2.2 _ _ (z1.cell 0)
    rw [h1.cell 0] at h9
    simp at h9
    exact h9.1.symm
  subst hB0
  obtain ⟨r1, r2, r3, _⟩ := hR
  obtain ⟨i1, i2⟩ := itB_snoc r1 r2
  have eA := (Ext.refl W).alloc (.cells #[x.v] 22)
  have hb0 : ∀ k, blk B0 = some k → w.heap.size + 3 ≤ k ∧ k < W0.heap.size := fun k hk => zo.base_ k hk
  have hn : ∀ k, k < w.heap.size + 3 → some k ≠ blk B0 := fun k hk e => by have := hb0 k e.symm; omega
  have g1 := (y1.ext eA).grown hg (hn _ (by omega))
  have g2 := (y2.ext eA).grown hg (hn _ (by omega))
  have g3 := (y3.ext eA).grown hg (hn _ (by omega))
  have s1 := (g1.set 0 (.slice A2 (pre.length + 1) c2)).other (h := w.heap.size + 1) (by omega) 0 (.int .i64 x.nx)
  have s2 := (g2.other (h := w.heap.size) (by omega) 0 (.slice A2 (pre.length + 1) c2)).set 0 (.int .i64 x.nx)
  have s3 := (g3.other (h := w.heap.size) (by omega) 0 (.slice A2 (pre.length + 1) c2)).other (h := w.heap.size + 1) (by omega) 0 (.int .i64 x.nx)
  have e2 : Ext w W2 := (yx.trans eA).grown hg (fun k hk => by have := hb0 k hk; omega)
  have hsz := hg.size
  rw [World.size_alloc] at hsz
  have q1 := grown_setCellY W2 w.heap.size 0 (.slice A2 (pre.length + 1) c2)
  have q2 := grown_setCellY (W2.setCell ⟨w.heap.size, 0, none⟩ (.slice A2 (pre.length + 1) c2)) (w.heap.size + 1) 0 (.int .i64 x.nx)
  have hoB := ho.base_
  have hwn : ∀ k, blk A2 = some k → k ≠ w.heap.size ∧ k ≠ w.heap.size + 1 := fun k hk => by have := hoB k hk; omega
  have eq1 : (W2.setCell ⟨w.heap.size, 0, none⟩ (.slice A2 (pre.length + 1) c2)).heap.size = W2.heap.size := by simp
  have eq2 : ((W2.setCell ⟨w.heap.size, 0, none⟩ (.slice A2 (pre.length + 1) c2)).setCell ⟨w.heap.size + 1, 0, none⟩ (.int .i64 x.nx)).heap.size = W2.heap.size := by simp
  refine ⟨⟨A2, c2, by simpa using s1, by rw [i2]; simpa using s2, s3, ?_, ?_, (e2.setCell (p := ⟨w.heap.size, 0, none⟩) (Nat.le_refl _) _).setCell (p := ⟨w.heap.size + 1, 0, none⟩) (Nat.le_succ _) _, by rw [eq2]; omega, i1⟩, ?_, ?_⟩
  · have h2 := (ho.keep q1 (by cases hA : blk A2 with | none => exact .inl rfl | some k => exact .inr (fun e => (hwn k hA).1 (by injection e)))).keep q2 (by cases hA : blk A2 with | none => exact .inl rfl | some k => exact .inr (fun e => (hwn k hA).2 (by injection e)))
    rw [List.length_append, List.map_append]
    exact h2
  · intro y hy
    have hkey : ∀ (B : Option Addr) (d : Nat) (ys : List UInt8), ElB W (.slice B ys.length d) ys → (∀ k, blk B = some k → w.heap.size + 3 ≤ k ∧ k < W.heap.size ∧ some k ≠ blk B0) →
        ElB ((W2.setCell ⟨w.heap.size, 0, none⟩ (.slice A2 (pre.length + 1) c2)).setCell ⟨w.heap.size + 1, 0, none⟩ (.int .i64 x.nx)) (.slice B ys.length d) ys ∧ ∀ k, blk B = some k → w.heap.size + 3 ≤ k ∧ k < ((W2.setCell ⟨w.heap.size, 0, none⟩ (.slice A2 (pre.length + 1) c2)).setCell ⟨w.heap.size + 1, 0, none⟩ (.int .i64 x.nx)).heap.size ∧ some k ≠ blk A2 := by
      intro B d ys hE hk
      refine ⟨(((hE.ext eA).grownY hg (fun k hk' => (hk k hk').2.2)).grownY q1 (fun k hk' e => by have := hk k hk'; injection e with e; omega)).grownY q2 (fun k hk' e => by have := hk k hk'; injection e with e; omega), fun k hk' => ?_⟩
      have := hk k hk'
      refine ⟨this.1, by rw [eq2]; omega, fun e => ?_⟩
      rcases hb with hb | hb
      · exact this.2.2 (e.trans hb)
      · rw [hb] at e; injection e with e; omega
    rcases List.mem_append.1 hy with hy | hy
    · exact hkey y.A y.c y.bs (ye y hy).1 (ye y hy).2
    · simp at hy
      subst hy
      refine hkey y.A y.c y.bs ⟨y.A, y.c, rfl, r3.rd, r3.cap, r3.capmax⟩ (fun k hk => ?_)
      have := r3.base_ k hk
      refine ⟨by omega, this.2, fun e => ?_⟩
      have := hb0 k e.symm
      omega
  · refine (KeepsOthers.alloc W _).trans ((KeepsOthers.of_grownBy hg ?_).trans ((KeepsOthers.setCell _ _ _).trans (KeepsOthers.setCell _ _ _)))
    intro j o hj ho'
    rcases (yo.ext eA).2 with ⟨hv', _⟩ | ⟨g, cap, cur, hv', _, hh, _⟩
    · injection hv' with hA _ _
      subst hA
      simp [blk] at hj
    · injection hv' with hA _ _
      subst hA
      simp [blk] at hj
      subst hj
      rw [hh] at ho'
      cases ho'
      rfl
  · intro p u hp hc
    have hlt := cell_lt hc
    have c1 := eA.cell hc
    have c2 : W2.cell? p = some u := by
      rw [World.cell?_of_block (w := W.alloc (.cells #[x.v] 22)) (hg.block _ (by rw [World.size_alloc]; omega) (hn _ (by omega)))]
      exact c1
    rw [World.cell?_of_block (w := W2) (by rw [Below.heap_setCell _ _ _ _ (by simp; omega), Below.heap_setCell _ _ _ _ (by simp; omega)])]
    exact c2

set_option maxHeartbeats 2000000 in
theorem valid_calls (A : Option Addr) (c : Nat) (bs : List UInt8) (w : World) (hb : RdB w A bs) (hl : bs.length ≤ 100000) (hcap : bs.length ≤ c) (hcm : c ≤ 9223372036854775807) :
    Calls Try.prog 42 #[.slice A bs.length c] w fun e w' => ∃ n A' c' vs, (nextK bs (itB bs n).2).2.2 ≠ 0 ∧ e = .returned (.tuple #[.slice A' (itB bs n).1.length c', .int .i64 (itB bs n).2]) ∧ Rd w' A' vs ∧ EL w' vs (itB bs n).1 ∧ Ext w w' := by
  refine (callsIn_wide (n := 5)).1 ?_
  refine callsIn_of_wp_marks Try.func42 rfl trivial ?_ rfl
  simp only [Try.ntmps42, List.size_toArray, List.length_cons, List.length_nil, Nat.reduceAdd, Nat.reduceSub, Array.replicate_succ, Array.replicate_zero, List.push_toArray, List.append_toArray, List.nil_append, List.cons_append]
  have Hb := Lib.hid hb
  clear hb
  gi_wp2_with fail
  refine ⟨trivial, (callsIn_wide.2 (boxes_calls A bs.length c _)).mono ?_⟩
  rintro e w1 ⟨rfl, rfl⟩
  gi_wp2_with fail
  have hV0 : VI w A c bs [] (((w.alloc (.cells #[.slice none 0 0] 59)).alloc (.cells #[.int .i64 0] 3)).alloc (.cells #[.slice A bs.length c] 22)) := by
    have a1 := Arr.new w 59 #[.slice none 0 0]
    have a2 := Arr.new (w.alloc (.cells #[.slice none 0 0] 59)) 3 #[.int .i64 0]
    have a3 := Arr.new ((w.alloc (.cells #[.slice none 0 0] 59)).alloc (.cells #[.int .i64 0] 3)) 22 #[.slice A bs.length c]
    rw [World.size_alloc] at a2 a3
    rw [World.size_alloc] at a3
    refine ⟨none, 0, (a1.ext ((Ext.refl _).alloc _)).ext ((Ext.refl _).alloc _), a2.ext ((Ext.refl _).alloc _), a3, OwnV.nil _ _ _ _, by simp, (((Ext.refl w).alloc _).alloc _).alloc _, by simp, rfl⟩
  have hsz : (((w.alloc (.cells #[.slice none 0 0] 59)).alloc (.cells #[.int .i64 0] 3)).alloc (.cells #[.slice A bs.length c] 22)).heap.size = w.heap.size + 3 := by simp
  generalize hW0 : (((w.alloc (.cells #[.slice none 0 0] 59)).alloc (.cells #[.int .i64 0] 3)).alloc (.cells #[.slice A bs.length c] 22)) = W0 at *
  clear hW0
  have HV0 := Lib.hid hV0
  have HSZ := Lib.hid hsz
  clear hV0 hsz
  have hnA : ∀ k, blk A = some k → k < w.heap.size ∨ bs = [] := by
    intro k hk
    by_cases h : bs = []
    · exact .inr h
    · obtain ⟨ad, ha, hc⟩ := Hb.out.at_ (k := 0) (List.length_pos_iff.2 h)
      have := cell_lt hc
      rw [block_add] at this
      subst ha
      simp [blk] at hk
      subst hk
      exact .inl this
  have HNA := Lib.hid hnA
  clear hnA
  refine wpIn_rangeY (gf := 48) (lb := #[.pointer (some ⟨w.heap.size + 1 + 1, 0, none⟩)]) rfl (enters_of Try.func48 (by kernel_rfl) rfl) (encs := Bx.enc) (Mv := Ext) (R := bxR bs) (Kp := bxK w.heap.size (w.heap.size + 2)) (S := bxS bs)
    (fun W hW => boxes1_seq _ (w.heap.size + 2) w.heap.size A c bs hl hcap hcm W ?hcell ?hrd ?hA) (fun _ => rfl) (fun A B h k o _ hk _ => h.block hk) (fun A B C h k p u hp hc => k p u hp (h p u hp hc)) (fun A => bxK_book _ _ _ A) (fun A p u _ h => h)
    (fun pre x A0 => bxR_book _ _ _ _ _) (fun xs => bxS_book _ _ _) (VI w A c bs) (fun pre => VI.book _ (by have := HSZ.out; omega) pre) (fun pre A B h e => h.ext e) (fun W hW => HV0.out.ext hW)
    (fun x => { tmps := #[.slice A bs.length c, undef, .slice none 0 0, .int .i64 0, .pointer (some ⟨w.heap.size, 0, none⟩), .pointer (some ⟨w.heap.size + 1, 0, none⟩), .slice x.A x.bs.length x.c, .int .i64 x.nx, .slice A bs.length c, .func (.func 48) #[] #[.pointer (some ⟨w.heap.size + 1 + 1, 0, none⟩)], .slice x.A x.bs.length x.c, .int .i64 x.nx, undef, undef, undef, undef, undef, undef, undef], defers := [] }) ?assign ?body ?done
  case hcell => obtain ⟨_, _, _, _, a3, _⟩ := (HV0.out.ext hW); exact a3.cell 0
  case hrd => obtain ⟨_, _, _, _, _, _, _, hx, _⟩ := (HV0.out.ext hW); exact Hb.out.ext hx
  case hA => exact HNA.out
  case assign =>
    intro l x W K hK
    dsimp only [Bx.enc]
    gi_wp2
    exact hK
  case body =>
    rintro l pre x Wa W h0 hv hR
    have HV := Lib.hid hv
    have HW := Lib.hid h0
    have HR := Lib.hid hR
    have hlen : pre.length ≤ 100000 := by
      have h1 := itB_len bs pre.length
      have h2 := itB_le bs pre.length
      rw [← hR.1, List.length_map] at h1
      omega
    obtain ⟨A1, c1, a1, a2, a3, ov, _, hx, hs3, _⟩ := hv
    obtain ⟨i0, hi, hz0, hz1, hz2⟩ := info_parts info_bytesY
    have HA1 := Lib.hid a1
    have c1' := a1.cell 0
    simp at c1'
    have HOV := Lib.hid (show OwnV (W.alloc (.cells #[x.v] 22)) (w.heap.size + 3) 22 1 A1 pre.length c1 (pre.map Bx.v) from ov.ext ((Ext.refl _).alloc _))
    have HNb : Hid (∀ k, k < w.heap.size + 3 → some k ≠ blk A1) := fun k hk e => by have := (ov.base_ k e.symm).1; omega
    have HA12 := Lib.hid (show Arr (W.alloc (.cells #[x.v] 22)) w.heap.size 59 #[.slice A1 pre.length c1] from a1.ext ((Ext.refl _).alloc _))
    have HA22 := Lib.hid (show Arr (W.alloc (.cells #[x.v] 22)) (w.heap.size + 1) 3 #[.int .i64 (itB bs pre.length).2] from a2.ext ((Ext.refl _).alloc _))
    have HS3 := Lib.hid hs3
    clear h0 hR a1 a2 a3 ov hx hs3
    gi_wp2_with (gi_at_builtin; refine wpListIn_append_own_at _ rfl _ _ 59 rfl (w.heap.size + 3) 22 i0 (.slice none 0 0) 1 24 Try.underlying59 hi hz0 hz1 hz2 rfl (by decide) (.slice A1 pre.length c1) pre.length (pre.map Bx.v) rfl HOV.out ⟨W.heap.size, 0, none⟩ 1 1 [x.v] rfl rfl (cell_one_new _ _ _) (by simp [Value.oneCell', Bx.v]) (by unfold maxLen; omega) (by omega) (by have := HS3.out; simp; omega) ?_; intro v' w1 hown' hgrow _ hblk; obtain ⟨g', cap', rfl⟩ := ownsRow_succ hown'; rw [ownBlock_slice] at hgrow; rw [ownBlock_slice, ownBlock_slice] at hblk; have HO1 := Lib.hid hown'; have HG1 := Lib.hid hgrow; have HB1 := Lib.hid hblk; have g1 := HA12.out.grown hgrow (HNb.out _ (by omega)); have g2 := HA22.out.grown hgrow (HNb.out _ (by omega)); have k1 := g1.cell 0; have k2 := g2.cell 0; have k3 := g1.frozen 0; have k4 := g2.frozen 0; simp at k1 k2; clear hown' hgrow hblk g1 g2)
    obtain ⟨q1, q2, q3⟩ := VI.step (A2 := some ⟨g', 0, none⟩) (c2 := cap') HW.out HA1.out HV.out HR.out HG1.out HO1.out (by have := HB1.out; rwa [World.size_alloc] at this) rfl
    exact ⟨q2.from _, q3, q1⟩
  case done =>
    rintro D xs W hD hS hv hK
    obtain ⟨A1, c1, a1, a2, a3, ov, he, hx, hs3, hm⟩ := hv
    have k1 := a1.cell 0
    have k2 := a2.cell 0
    simp at k1 k2
    have HS := Lib.hid hS
    have HR : Hid (∃ vs, Rd (W.putObj D (.deferred none)) A1 vs ∧ EL (W.putObj D (.deferred none)) vs (itB bs xs.length).1) := by
      refine ⟨xs.map Bx.v, (ov.putObj hK rfl).rd, ⟨by rw [← hm]; simp, fun i v b h1 h2 => ?_⟩⟩
      rw [← hm] at h2
      rw [List.getElem?_map] at h1 h2
      cases hq : xs[i]? with
      | none => rw [hq] at h1; cases h1
      | some y =>
        rw [hq] at h1 h2
        simp at h1 h2
        subst h1 h2
        exact (he y (List.mem_of_getElem? hq)).1.putObj hK rfl
    have HX : Hid (Ext w (W.drew.putObj D (.deferred none))) := Ext.putObj (W := W.drew) hx.drew (by have := HSZ.out; omega) hK
    have HL : Hid (xs.length = (itB bs xs.length).1.length) := by show _ = _; rw [← hm]; simp
    clear a1 a2 a3 ov he hx hs3 hm hS
    gi_wp2
    gi_region
    gi_wp2
    refine ⟨by simp, .inl ⟨_, _, rfl, run_takeDeferred (w := W.drew) hK, ?_⟩⟩
    refine ⟨_, results_tmp2 rfl _ _ _, ?_⟩
    obtain ⟨vs, r1, r2⟩ := HR.out
    exact ⟨xs.length, A1, c1, vs, HS.out.2, by rw [← HL.out]; rfl, r1, r2, HX.out⟩
end Go.Proofs.Ytjbejaieihchmaa
