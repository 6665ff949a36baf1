/- ref16.Apply. -/
import Derived.Test.YtkbjnlbbfapgdaaDoorLGk
import Derived.Test.YtkbjnlbbfapgdaaDoorLGa
import Derived.Maps.RangeWalk
import Derived.Deep.CutRange
import Derived.Deep.RegionWith
set_option maxRecDepth 100000
set_option linter.unusedVariables false
set_option linter.unusedSimpArgs false
namespace Go.Proofs.YtkbjnlbbfapgdaaDoor
open Go.RowKit

theorem cut_c {wc w8 : World} {b : Ac} {L8 C8 : Option Addr} {l8 c8 gA bb : Nat} (T : Ext wc w8) (hA : wc.heap.size ≤ gA) (Z : Arr w8 gA 26 (acV Ac0 none 0 none 0)) (O : OwnA w8 bb b L8 l8 C8 c8) (h1 : gA < bb) :
    CutB wc b (.pointer (some ⟨gA, 0, none⟩)) (.int .i64 0) (((((((w8.setCell ⟨gA, 0, none⟩ (.string b.ten)).setCell ⟨gA, 1, none⟩ (.int .u64 b.cap)).setCell ⟨gA, 2, none⟩ (.int .u64 b.used)).setCell ⟨gA, 3, none⟩ (.int .u64 b.bits)).setCell ⟨gA, 4, none⟩ (.int .u64 b.per)).setCell ⟨gA, 5, none⟩ (.slice L8 b.ls.length l8)).setCell ⟨gA, 6, none⟩ (.slice C8 b.cl.length c8)) :=
  ⟨gA, L8, l8, C8, c8, bb, rfl, rfl, arr_store7 Z _ _ _ _ _ _ _, O.keep (grown_store7 _ _ _ _ _ _ _ _ _) (O.off (.inl h1)).1 (O.off (.inl h1)).2, by omega, T.grown (grown_store7 _ _ _ _ _ _ _ _ _) (fun k hk => by injection hk with hk; omega)⟩

theorem ext_store7 {wB w8 : World} {gA : Nat} (T : Ext wB w8) (G : wB.heap.size ≤ gA) (v0 v1 v2 v3 v4 v5 v6 : Value) : Ext wB (((((((w8.setCell ⟨gA, 0, none⟩ v0).setCell ⟨gA, 1, none⟩ v1).setCell ⟨gA, 2, none⟩ v2).setCell ⟨gA, 3, none⟩ v3).setCell ⟨gA, 4, none⟩ v4).setCell ⟨gA, 5, none⟩ v5).setCell ⟨gA, 6, none⟩ v6) :=
  T.grown (grown_store7 _ _ _ _ _ _ _ _ _) (fun k hk => by injection hk with hk; omega)
/-- the row that the ledger is put together in -/
def LI (wc : World) (s7 g6 sq : Nat) (wr : World) (A' : Option Addr) (c' : Nat) (ys : List Ax) : Prop :=
  Ext wc wr ∧ Arr wr g6 40 #[.int .u64 sq, .slice A' ys.length c'] ∧ OwnV wr s7 26 7 A' ys.length c' (ys.flatMap Ax.cs) ∧ s7 ≤ wr.heap.size ∧ wc.heap.size ≤ g6 ∧ g6 < s7
theorem LI.ext {wc wr w1 : World} {s7 g6 sq : Nat} {A' : Option Addr} {c' : Nat} {ys : List Ax} (I : LI wc s7 g6 sq wr A' c' ys) (e : Ext wr w1) : LI wc s7 g6 sq w1 A' c' ys :=
  ⟨I.1.trans e, I.2.1.ext e, I.2.2.1.ext e, Nat.le_trans I.2.2.2.1 e.size, I.2.2.2.2.1, I.2.2.2.2.2⟩
theorem LI.app {wc wr w1 w8 : World} {s7 g6 sq : Nat} {A' A8 : Option Addr} {c' c8 : Nat} {ys : List Ax} {x : Ax} (I : LI wc s7 g6 sq wr A' c' ys) (e : Ext wr w1) (h8 : OwnV w8 s7 26 7 A8 (ys.length + 1) c8 (ys.flatMap Ax.cs ++ x.cs)) (g8 : w1.grownBy w8 (blk A')) :
    (w8.cell? ⟨g6, 1, none⟩ = some (.slice A' ys.length c') ∧ w8.frozen? ⟨g6, 1, none⟩ = false) ∧ LI wc s7 g6 sq (w8.setCell ⟨g6, 1, none⟩ (.slice A8 (ys.length + 1) c8)) A8 c8 (ys ++ [x]) := by
  obtain ⟨i1, i2, i3, i4, i5, i6⟩ := I
  have hoff : Off A' g6 := fun k hk => by have := i3.base_ k hk; omega
  have a8 := (i2.ext e).off g8 hoff
  have q := grown_setCell w8 g6 1 (.slice A8 (ys.length + 1) c8)
  have e8 : Ext wc w8 := own_base i1 i3 e (by omega) g8
  refine ⟨⟨a8.cell 1, a8.frozen 1⟩, e8.grown q (fun k hk => by injection hk with hk; omega), ?_, ?_, ?_, i5, i6⟩
  · rw [List.length_append]; exact a8.set 1 _
  · rw [List.length_append, List.flatMap_append]
    have := h8.keep q (.inr (fun he => by have := h8.base_ _ he; omega))
    simpa using this
  · have h1 := e.size
    have h2 := g8.size
    have h3 := q.size
    omega

/-- the ledger behind a record: its row is the call's own, its accounts lie where they lay -/
def RetR (w : World) (seq : Nat) (l : List Ac) (e : Ending) (w' : World) : Prop := ∃ A c, ∃ ys : List Ax, e = .returned (lgA seq A ys.length c) ∧ acs ys = l ∧ RdL w' A ys ∧ (∀ y ∈ ys, y.a.ok) ∧ Ext w w'

set_option maxHeartbeats 16000000 in
theorem rlapply_calls (seq : Nat) (A : Option Addr) (c : Nat) (xs : List Ax) (r : Rc) (w : World) (hb : RdL w A xs) (hok : ∀ x ∈ xs, x.a.ok) (hl : xs.length ≤ 100000) (hr : Rises (acs xs)) (hrk : r.ok) (ht : r.ten.size ≤ 1000000)
    (hn : ∀ x ∈ xs, x.a.ls.length < 100000 ∧ x.a.cl.length < 100000) (h0 : chkL seq (acs xs) r = 0) :
    Calls Tryd.prog 39 #[lgA seq A xs.length c, rcA r] w (RetR w r.seq (comL (acs xs) r)) := by
  have HB := Lib.hid hb
  have HOK := Lib.hid hok
  have HRI := Lib.hid hr
  have HC0 := (chkL_zero h0).2.2
  obtain ⟨b, hbb⟩ : ∃ b, b = appA (accOf (acs xs) r.ten) r := ⟨_, rfl⟩
  have HBT : Hid (b.ten = r.ten) := by show _ = _; rw [hbb, app_ten, acc_ten]
  have HCM : Hid (comL (acs xs) r = putL (acs xs) b) := by show _ = _; rw [hbb]; rfl
  have HLO : (accOf (acs xs) r.ten).ok ∧ (accOf (acs xs) r.ten).ls.length < 100000 ∧ (accOf (acs xs) r.ten).cl.length < 100000 := by
    rcases acc_mem (acs xs) r.ten with h | h
    · obtain ⟨x, hx, he⟩ := List.mem_map.1 h
      rw [← he]; exact ⟨hok x hx, hn x hx⟩
    · rw [h]; exact ⟨acNone_ok ht, by simp [acNone], by simp [acNone]⟩
  have HBO : Hid b.ok := by show b.ok; rw [hbb]; exact appA_ok2 HLO.1 hrk HC0 HLO.2.1 HLO.2.2
  have HAC : Hid (∀ W, Ext w W → Calls Tryd.prog 38 #[(.agg #[.int .u64 seq, .slice A xs.length c]), .string r.ten] W (fun e w' => ∃ x : Ax, e = .returned ((.agg #[.string x.a.ten, .int .u64 x.a.cap, .int .u64 x.a.used, .int .u64 x.a.bits, .int .u64 x.a.per, .slice x.AL x.a.ls.length x.cL, .slice x.AC x.a.cl.length x.cC])) ∧ (∀ W', Ext w' W' → Calls Tryd.prog 89 #[(.agg #[.string x.a.ten, .int .u64 x.a.cap, .int .u64 x.a.used, .int .u64 x.a.bits, .int .u64 x.a.per, .slice x.AL x.a.ls.length x.cL, .slice x.AC x.a.cl.length x.cC]), (.agg #[.int .u64 r.seq, .int .i64 r.kind, .string r.ten, .int .u64 r.lease, .int .u64 r.n, .int .u64 r.bits])] W' (fun e w'' => ∃ L l C c, e = .returned (.agg #[.string b.ten, .int .u64 b.cap, .int .u64 b.used, .int .u64 b.bits, .int .u64 b.per, .slice L b.ls.length l, .slice C b.cl.length c]) ∧ OwnA w'' W'.heap.size b L l C c ∧ Ext W' w'')) ∧ Ext W w')) := fun W e =>
    (raccount_calls seq A c xs r.ten W (hb.ext e) (by omega)).mono fun e' w' h => by
      obtain ⟨x, hm, hxa, he, hE⟩ := h
      refine ⟨x, he, fun W' e2 => ?_, hE⟩
      have hin : x.in_ W' := by
        rcases hm with hm | rfl
        · exact (hb.each x hm).ext ((e.trans hE).trans e2)
        · exact axNone_in (by omega)
      have hb2 : appA x.a r = b := by rw [hxa, hbb]
      have h3 := rapply_calls x.a r x.AL x.AC x.cL x.cC W' hin.rd (by rw [hxa]; exact HLO.1) hrk (by rw [hxa]; exact HC0)
      rw [hb2] at h3
      exact h3
  have HPL : Hid (posN (acs xs) b.nm ≤ xs.length) := by have := posN_le (acs xs) b.nm; rwa [acs_len] at this
  have HLT : Hid (∀ k (h : k < xs.length), k < posN (acs xs) b.nm → cB xs[k].a.nm b.nm < 0 ∧ xs[k].a.ten ≠ b.ten ∧ outM (acs xs) b (k + 1) = outM (acs xs) b k ++ [xs[k].a]) := fun k h hk => by
    have h' : k < (acs xs).length := by rwa [acs_len]
    obtain ⟨d1, d2⟩ := outM_done hr (a := b) h'
    rw [ax_get h] at d1 d2
    refine ⟨by have : ¬ 0 ≤ cB xs[k].a.nm b.nm := fun e => by have := d1.2 e; omega
               omega, fun e => by have := (d2.1 e).2; omega, ?_⟩
    rw [outM_lt h' hk, ax_get h]
  have HGT : Hid (∀ k (h : k < xs.length), posN (acs xs) b.nm < k → xs[k].a.ten ≠ b.ten ∧ outM (acs xs) b (k + 1) = outM (acs xs) b k ++ [xs[k].a]) := fun k h hk => by
    have h' : k < (acs xs).length := by rwa [acs_len]
    obtain ⟨d1, d2⟩ := outM_done hr (a := b) h'
    rw [ax_get h] at d1 d2
    refine ⟨fun e => by have := (d2.1 e).2; omega, ?_⟩
    rw [outM_gt h' hk, ax_get h]
  have HEQ : Hid (∀ k (h : k < xs.length), posN (acs xs) b.nm = k → ¬ cB xs[k].a.nm b.nm < 0 ∧ ((xs[k].a.ten = b.ten ∧ outM (acs xs) b (k + 1) = outM (acs xs) b k ++ [b]) ∨ (xs[k].a.ten ≠ b.ten ∧ outM (acs xs) b (k + 1) = outM (acs xs) b k ++ [b] ++ [xs[k].a]))) := fun k h hk => by
    have h' : k < (acs xs).length := by rwa [acs_len]
    obtain ⟨d1, d2⟩ := outM_done hr (a := b) h'
    have d3 := outM_eq hr (a := b) h' hk.symm
    rw [ax_get h] at d1 d2 d3
    refine ⟨by have := d1.1 (by omega); omega, ?_⟩
    cases hth : thereB (acs xs) b.nm with
    | true => rw [hth] at d2 d3; exact .inl ⟨d2.2 ⟨rfl, hk.symm⟩, by simpa using d3⟩
    | false => rw [hth] at d2 d3; exact .inr ⟨fun e => (by have := (d2.1 e).1; cases this), by simpa using d3⟩
  have HEN : Hid (putL (acs xs) b = if posN (acs xs) b.nm < xs.length then outM (acs xs) b xs.length else outM (acs xs) b xs.length ++ [b]) := by
    have := outM_end hr b
    rwa [acs_len] at this
  rw [HCM.out]
  have HOZ : Hid (outM (acs xs) b 0 = []) := Lib.hid (outM_zero _ _)
  generalize posN (acs xs) b.nm = p at *
  generalize putL (acs xs) b = PL at *
  obtain ⟨OM, hOM⟩ : ∃ OM : Nat → List Ac, OM = outM (acs xs) b := ⟨_, rfl⟩
  rw [← hOM] at HLT HGT HEQ HEN HOZ
  clear hb hok hr hrk ht hn h0 HC0 HLO hbb HCM hOM
  unfold lgA rcA
  go_enter Tryd.func39, Tryd.ntmps39
  go_upto_region 1 with (first
    | ((with_reducible show wpList _ _ _ ({ dst := some 2, op := Op.box 40 _, type := _, pos := _, after := _, guard := _ } :: _) _ _); refine bxA _ rfl 40 _ rfl _ rfl ?_; intro g2 w1 hg hs1 k1 e1; have X1 := Lib.hid k1; have E1 := Lib.hid e1; clear hg hs1 k1 e1)
    | ((with_reducible show wpList _ _ _ ({ dst := some 3, op := Op.box 28 _, type := _, pos := _, after := _, guard := _ } :: _) _ _); refine bxA _ rfl 28 _ rfl _ rfl ?_; intro g3 w3 hg hs1 k1 e1; have Y3 := Lib.hid k1; have X3 := Lib.hid (X1.out.ext e1); have E3 := Lib.hid (E1.out.trans e1); clear hg hs1 k1 e1 X1 E1)
    | ((with_reducible show wpList _ _ _ ({ dst := some 4, op := Op.alloc 40, type := _, pos := _, after := _, guard := _ } :: _) _ _); refine alA _ rfl 40 rfl _ _ zero_lg ?_; intro g4 w4 hg hs1 k1 e1; have G4 := Lib.hid (show w.heap.size ≤ g4 ∧ g2 < g4 ∧ g3 < g4 from ⟨by have := E3.out.size; omega, by have := X3.out.lt; omega, by have := Y3.out.lt; omega⟩); have Z4 := Lib.hid k1; have X4 := Lib.hid (X3.out.ext e1); have Y4 := Lib.hid (Y3.out.ext e1); have E4 := Lib.hid (E3.out.trans e1); clear hg hs1 k1 e1 X3 Y3 E3))
  obtain ⟨wB, rfl⟩ : ∃ v, v = w4 := ⟨_, rfl⟩
  obtain ⟨a0, a1⟩ := lg_cells X4.out
  obtain ⟨r0, r1, r2, r3, r4, r5⟩ := rc_cells Y4.out
  go_frame
  go_cut [5] from 9 to 14 (fun pv wx => CutB wB b pv (.int .i64 0) wx)
  case first =>
    clear HLT HGT HEQ HEN HOZ HPL HB HOK HRI HBT HBO hl G4
    have KS : Hid (∀ W, Ext wB W → Ext wB W ∧ (W.cell? ⟨g2, 0, none⟩ = some (.int .u64 seq) ∧ W.cell? ⟨g2, 1, none⟩ = some (.slice A xs.length c)) ∧ W.cell? ⟨g3, 0, none⟩ = some (.int .u64 r.seq) ∧ W.cell? ⟨g3, 1, none⟩ = some (.int .i64 r.kind) ∧ W.cell? ⟨g3, 2, none⟩ = some (.string r.ten) ∧ W.cell? ⟨g3, 3, none⟩ = some (.int .u64 r.lease) ∧ W.cell? ⟨g3, 4, none⟩ = some (.int .u64 r.n) ∧ W.cell? ⟨g3, 5, none⟩ = some (.int .u64 r.bits)) := fun W e => ⟨e, lg_cells (X4.out.ext e), rc_cells (Y4.out.ext e)⟩
    have l2 : g2 < wB.heap.size := X4.out.lt
    have l3 : g3 < wB.heap.size := Y4.out.lt
    have n2 : ¬ g2 = wB.heap.size := by omega
    have n3 : ¬ g3 = wB.heap.size := by omega
    have aa0 : ∀ ob, (wB.alloc ob).cell? ⟨g2, 0, none⟩ = some (.int .u64 seq) := fun ob => (KS.out _ ((Ext.refl _).alloc ob)).2.1.1
    have aa1 : ∀ ob, (wB.alloc ob).cell? ⟨g2, 1, none⟩ = some (.slice A xs.length c) := fun ob => (KS.out _ ((Ext.refl _).alloc ob)).2.1.2
    have rr0 : ∀ ob, (wB.alloc ob).cell? ⟨g3, 0, none⟩ = some (.int .u64 r.seq) := fun ob => (KS.out _ ((Ext.refl _).alloc ob)).2.2.1
    have rr1 : ∀ ob, (wB.alloc ob).cell? ⟨g3, 1, none⟩ = some (.int .i64 r.kind) := fun ob => (KS.out _ ((Ext.refl _).alloc ob)).2.2.2.1
    have rr2 : ∀ ob, (wB.alloc ob).cell? ⟨g3, 2, none⟩ = some (.string r.ten) := fun ob => (KS.out _ ((Ext.refl _).alloc ob)).2.2.2.2.1
    have rr3 : ∀ ob, (wB.alloc ob).cell? ⟨g3, 3, none⟩ = some (.int .u64 r.lease) := fun ob => (KS.out _ ((Ext.refl _).alloc ob)).2.2.2.2.2.1
    have rr4 : ∀ ob, (wB.alloc ob).cell? ⟨g3, 4, none⟩ = some (.int .u64 r.n) := fun ob => (KS.out _ ((Ext.refl _).alloc ob)).2.2.2.2.2.2.1
    have rr5 : ∀ ob, (wB.alloc ob).cell? ⟨g3, 5, none⟩ = some (.int .u64 r.bits) := fun ob => (KS.out _ ((Ext.refl _).alloc ob)).2.2.2.2.2.2.2
    go_region_with (first | (go_at_call 38; refine (HAC.out _ (E4.out.trans (by first | with_reducible exact (Ext.refl _).drew | with_reducible exact (Ext.refl _).drew.alloc _ | with_reducible exact ((Ext.refl _).alloc _).drew | with_reducible exact ((Ext.refl _).alloc _).drew))).mono ?_; rintro e w6 ⟨x6, rfl, hA6, e6⟩; have T6 : Ext wB w6 := Ext.trans (by first | with_reducible exact (Ext.refl _).drew | with_reducible exact (Ext.refl _).drew.alloc _ | with_reducible exact ((Ext.refl _).alloc _).drew | with_reducible exact ((Ext.refl _).alloc _).drew) e6; have A6 := Lib.hid hA6; have d6 := (KS.out _ T6).2.2; obtain ⟨s0, s1, s2, s3, s4, s5⟩ := d6; have n6 : ¬ g3 = w6.heap.size := (by have := T6.size; omega); have ss0 : ∀ ob, (w6.alloc ob).cell? ⟨g3, 0, none⟩ = some (.int .u64 r.seq) := fun ob => (KS.out _ (T6.alloc ob)).2.2.1; have ss1 : ∀ ob, (w6.alloc ob).cell? ⟨g3, 1, none⟩ = some (.int .i64 r.kind) := fun ob => (KS.out _ (T6.alloc ob)).2.2.2.1; have ss2 : ∀ ob, (w6.alloc ob).cell? ⟨g3, 2, none⟩ = some (.string r.ten) := fun ob => (KS.out _ (T6.alloc ob)).2.2.2.2.1; have ss3 : ∀ ob, (w6.alloc ob).cell? ⟨g3, 3, none⟩ = some (.int .u64 r.lease) := fun ob => (KS.out _ (T6.alloc ob)).2.2.2.2.2.1; have ss4 : ∀ ob, (w6.alloc ob).cell? ⟨g3, 4, none⟩ = some (.int .u64 r.n) := fun ob => (KS.out _ (T6.alloc ob)).2.2.2.2.2.2.1; have ss5 : ∀ ob, (w6.alloc ob).cell? ⟨g3, 5, none⟩ = some (.int .u64 r.bits) := fun ob => (KS.out _ (T6.alloc ob)).2.2.2.2.2.2.2; have SZ6 := Lib.hid T6.size; first | (have q6 : Ext (wB.drew.alloc _) w6 := (by with_reducible exact e6); have Z6 : Hid (Arr w6 wB.heap.size 26 (acV Ac0 none 0 none 0)) := Lib.hid (Arr.ext (Arr.new wB.drew _ _) q6); have S6 : Hid (wB.heap.size < w6.heap.size) := Z6.out.lt; clear q6) | (have q6 : Ext ((wB.alloc _).drew) w6 := (by with_reducible exact e6); have Z6 : Hid (Arr w6 wB.heap.size 26 (acV Ac0 none 0 none 0)) := Lib.hid (Arr.ext (Arr.drew (Arr.new wB _ _)) q6); have S6 : Hid (wB.heap.size < w6.heap.size) := Z6.out.lt; clear q6) | skip; clear hA6) | (go_at_call 89; refine (A6.out _ (by first | with_reducible exact Ext.refl _ | with_reducible exact (Ext.refl _).alloc _)).mono ?_; rintro e w8 ⟨L8, l8, C8, c8, rfl, o8, e8⟩; have T8 : Ext wB w8 := Ext.trans (by first | with_reducible exact T6 | with_reducible exact T6.alloc _) e8; have O8 : Hid (∃ bb, OwnA w8 bb b L8 l8 C8 c8 ∧ wB.heap.size ≤ bb) := ⟨_, o8, (by have := SZ6.out; simp; omega)⟩; first | (have Z8 : Hid (Arr w8 wB.heap.size 26 (acV Ac0 none 0 none 0)) := Lib.hid (Z6.out.ext e8); have G8 : Hid (wB.heap.size ≤ wB.heap.size) := Nat.le_refl _; have O9 : Hid (∃ bb, OwnA w8 bb b L8 l8 C8 c8 ∧ wB.heap.size < bb) := ⟨_, o8, S6.out⟩; have z0 : w8.cell? ⟨wB.heap.size, 0, none⟩ = some (.string ByteArray.empty) := Z8.out.cell 0; have f0 : w8.frozen? ⟨wB.heap.size, 0, none⟩ = false := Z8.out.frozen 0; have z1 : w8.cell? ⟨wB.heap.size, 1, none⟩ = some (.int .u64 0) := Z8.out.cell 1; have f1 : w8.frozen? ⟨wB.heap.size, 1, none⟩ = false := Z8.out.frozen 1; have z2 : w8.cell? ⟨wB.heap.size, 2, none⟩ = some (.int .u64 0) := Z8.out.cell 2; have f2 : w8.frozen? ⟨wB.heap.size, 2, none⟩ = false := Z8.out.frozen 2; have z3 : w8.cell? ⟨wB.heap.size, 3, none⟩ = some (.int .u64 0) := Z8.out.cell 3; have f3 : w8.frozen? ⟨wB.heap.size, 3, none⟩ = false := Z8.out.frozen 3; have z4 : w8.cell? ⟨wB.heap.size, 4, none⟩ = some (.int .u64 0) := Z8.out.cell 4; have f4 : w8.frozen? ⟨wB.heap.size, 4, none⟩ = false := Z8.out.frozen 4; have z5 : w8.cell? ⟨wB.heap.size, 5, none⟩ = some (.slice none 0 0) := Z8.out.cell 5; have f5 : w8.frozen? ⟨wB.heap.size, 5, none⟩ = false := Z8.out.frozen 5; have z6 : w8.cell? ⟨wB.heap.size, 6, none⟩ = some (.slice none 0 0) := Z8.out.cell 6; have f6 : w8.frozen? ⟨wB.heap.size, 6, none⟩ = false := Z8.out.frozen 6) | (have q8 : Ext (w6.alloc _) w8 := (by with_reducible exact e8); have Z8 : Hid (Arr w8 w6.heap.size 26 (acV Ac0 none 0 none 0)) := Lib.hid (Arr.ext (Arr.new w6 _ _) q8); have G8 : Hid (wB.heap.size ≤ w6.heap.size) := SZ6.out; have O9 : Hid (∃ bb, OwnA w8 bb b L8 l8 C8 c8 ∧ w6.heap.size < bb) := ⟨_, o8, (by simp)⟩; have z0 : w8.cell? ⟨w6.heap.size, 0, none⟩ = some (.string ByteArray.empty) := Z8.out.cell 0; have f0 : w8.frozen? ⟨w6.heap.size, 0, none⟩ = false := Z8.out.frozen 0; have z1 : w8.cell? ⟨w6.heap.size, 1, none⟩ = some (.int .u64 0) := Z8.out.cell 1; have f1 : w8.frozen? ⟨w6.heap.size, 1, none⟩ = false := Z8.out.frozen 1; have z2 : w8.cell? ⟨w6.heap.size, 2, none⟩ = some (.int .u64 0) := Z8.out.cell 2; have f2 : w8.frozen? ⟨w6.heap.size, 2, none⟩ = false := Z8.out.frozen 2; have z3 : w8.cell? ⟨w6.heap.size, 3, none⟩ = some (.int .u64 0) := Z8.out.cell 3; have f3 : w8.frozen? ⟨w6.heap.size, 3, none⟩ = false := Z8.out.frozen 3; have z4 : w8.cell? ⟨w6.heap.size, 4, none⟩ = some (.int .u64 0) := Z8.out.cell 4; have f4 : w8.frozen? ⟨w6.heap.size, 4, none⟩ = false := Z8.out.frozen 4; have z5 : w8.cell? ⟨w6.heap.size, 5, none⟩ = some (.slice none 0 0) := Z8.out.cell 5; have f5 : w8.frozen? ⟨w6.heap.size, 5, none⟩ = false := Z8.out.frozen 5; have z6 : w8.cell? ⟨w6.heap.size, 6, none⟩ = some (.slice none 0 0) := Z8.out.cell 6; have f6 : w8.frozen? ⟨w6.heap.size, 6, none⟩ = false := Z8.out.frozen 6) | skip; clear o8))
    all_goals
      go_wp2_with fail
      go_meet
      first | with_reducible exact cut_a T8 O8.out | (obtain ⟨bb, O9a, O9b⟩ := O9.out; with_reducible exact cut_c T8 G8.out Z8.out O9a O9b)
  case rest =>
    obtain ⟨g5, L5, l5, C5, c5, bb, rfl, _, k5, o5, hbb, e5⟩ := hcut
    have S4 : Hid (g4 < wB.heap.size ∧ wB.heap.size ≤ bb ∧ wB.heap.size ≤ wc.heap.size) := ⟨Z4.out.lt, hbb, e5.size⟩
    have W5 := Lib.hid k5
    have OA := Lib.hid o5
    have X5 := Lib.hid (X4.out.ext e5)
    have Y5 := Lib.hid (Y4.out.ext e5)
    have Z5 := Lib.hid (Z4.out.ext e5)
    have E5 := Lib.hid (E4.out.trans e5)
    clear k5 o5 hbb e5 a0 a1 r0 r1 r2 r3 r4 r5 HAC X4 Y4 Z4 E4
    obtain ⟨a0, a1⟩ := lg_cells X5.out
    obtain ⟨r0, r1, r2, r3, r4, r5⟩ := rc_cells Y5.out
    go_wp2_with (first
      | ((with_reducible show wpList _ _ _ ({ dst := some 6, op := Op.alloc 40, type := _, pos := _, after := _, guard := _ } :: _) _ _); refine alA _ rfl 40 rfl _ _ zero_lg ?_; intro g6 w6 hg hs1 k1 e1; have V6 := Lib.hid k1; have E6 := Lib.hid e1; have G6 := Lib.hid (Nat.le_of_eq hg); clear hg hs1 k1 e1)
      | ((with_reducible show wpList _ _ _ ({ dst := none, op := Op.store 40 (Operand.tmp 6) _, type := _, pos := _, after := _, guard := _ } :: _) _ _); refine stA _ rfl 40 40 _ _ rfl g6 _ #[.int .u64 r.seq, .slice none 0 0] rfl rfl V6.out size_lg rfl (lg_one _ _ _ _) ?_; intro w7 hs7 k7 q7; have I7 := Lib.hid (show LI wc w7.heap.size g6 r.seq w7 none 0 [] from ⟨E6.out.grown q7 (fun q hq => by injection hq with hq; have := G6.out; omega), k7, OwnV.nil _ _ _ _, Nat.le_refl _, G6.out, k7.lt⟩); clear hs7 k7 q7))
    clear a0 a1 r0 r1 r2 r3 r4 r5
    go_loopw [7, 8] (fun d i wr => ∃ k : Nat, ∃ A' c', ∃ ys : List Ax, k ≤ xs.length ∧ i = .int .i64 k ∧ d = .bool (decide (p < k)) ∧ LI wc w7.heap.size g6 r.seq wr A' c' ys ∧ acs ys = OM k ∧ ys.length ≤ 2 * k ∧ (∀ y ∈ ys, y ∈ xs ∨ y = (Ax.mk b L5 l5 C5 c5))) (fun _ i _ => xs.length - (intOf i).toNat)
    case atStart => exact ⟨0, none, 0, [], by omega, rfl, by rw [decide_eq_false (by omega)], I7.out, HOZ.out.symm, by simp, by simp⟩
    case round =>
      obtain ⟨k, A', c', ys, hk, rfl, rfl, hI, hY, hyl, hM⟩ := hrel
      have I0 := Lib.hid hI
      have HY := Lib.hid hY
      have HM := Lib.hid hM
      clear hI hY hM
      obtain ⟨a0, a1⟩ := lg_cells (X5.out.ext I0.out.1)
      by_cases hlt : k < xs.length
      · have k1 : (k : Int) < (xs.length : Int) := by omega
        have hmx := List.getElem_mem hlt
        have HMS : Hid (∀ y ∈ ys ++ [xs[k]], y ∈ xs ∨ y = (Ax.mk b L5 l5 C5 c5)) := fun y hy => by
          rcases List.mem_append.1 hy with hy | hy
          · exact HM.out y hy
          · obtain rfl : y = xs[k] := by simpa using hy
            exact .inl hmx
        have HMA : Hid (∀ y ∈ ys ++ [(Ax.mk b L5 l5 C5 c5)], y ∈ xs ∨ y = (Ax.mk b L5 l5 C5 c5)) := fun y hy => by
          rcases List.mem_append.1 hy with hy | hy
          · exact HM.out y hy
          · exact .inr (by simpa using hy)
        have HMB : Hid (∀ y ∈ ys ++ [(Ax.mk b L5 l5 C5 c5)] ++ [xs[k]], y ∈ xs ∨ y = (Ax.mk b L5 l5 C5 c5)) := fun y hy => by
          rcases List.mem_append.1 hy with hy | hy
          · exact HMA.out y hy
          · obtain rfl : y = xs[k] := by simpa using hy
            exact .inl hmx
        obtain ⟨ad, hA, hxc⟩ := (⟨HB.out.rd.ext E5.out, fun x hx => (HB.out.each x hx).ext E5.out⟩ : RdL wc A xs).cells_at hlt
        subst hA
        have KS0 : Hid (∀ W, Ext wc W → _) := fun W e => And.intro ((X5.out.ext e).cell 1) (And.intro (ac_cells (W5.out.ext e)).1 (hxc W e))
        clear hxc hmx a0
        rcases Nat.lt_trichotomy p k with h | h | h
        · have HX := Lib.hid (HGT.out k hlt h)
          have qd : decide (p < k) = true := decide_eq_true h
          have qe : decide (p < k + 1) = true := decide_eq_true (by omega)
          generalize xs[k] = x at *
          have qn : (x.a.ten.toList == b.ten.toList) = false := by rw [str_beq]; exact decide_eq_false HX.out.1
          have qn2 : (x.a.ten.toList != b.ten.toList) = true := by simp [bne, qn]
          go_wp2_with fail
          have KS := Lib.hid (fun W e => KS0.out W (I0.out.1.trans e))
          refine wp_region_quietE wr (Ext.refl _) (by kernel_rfl) (by kernel_rfl) ?_
          repeat (first | (apply wpq_skip; (focus rfl); (try simp only [Act.put, List.setIfInBounds_toArray, List.set_cons_zero, List.set_cons_succ])) | (apply wpq_take; (focus rfl); (focus (intro W hW; obtain ⟨a1, y0, ⟨x0, x1, x2, x3, x4, x5, x6⟩⟩ := KS.out W hW; go_simp; (first | done | with_reducible rfl))); (try simp only [Act.put, List.setIfInBounds_toArray, List.set_cons_zero, List.set_cons_succ])))
          refine wpq_nil ?_
          intro w9 S9
          clear KS
          go_wp2_with fail
          have KS := Lib.hid (fun W e => KS0.out W ((I0.out.1.trans S9).trans e))
          refine wp_region_quietE w9 (Ext.refl _) (by kernel_rfl) (by kernel_rfl) ?_
          repeat (first | (apply wpq_skip; (focus rfl); (try simp only [Act.put, List.setIfInBounds_toArray, List.set_cons_zero, List.set_cons_succ])) | (apply wpq_take; (focus rfl); (focus (intro W hW; obtain ⟨a1, y0, ⟨x0, x1, x2, x3, x4, x5, x6⟩⟩ := KS.out W hW; go_simp; (first | done | with_reducible rfl))); (try simp only [Act.put, List.setIfInBounds_toArray, List.set_cons_zero, List.set_cons_succ])))
          refine wpq_nil ?_
          intro w10 S10
          clear KS
          go_wp2_with fail
          have I10 := Lib.hid ((I0.out.ext S9).ext S10)
          have IX := Lib.hid (I10.out.ext (Ext.refl _).drew)
          obtain ⟨a1, y0, ⟨x0, x1, x2, x3, x4, x5, x6⟩⟩ := KS0.out _ I10.out.1
          have z1 : w10.cell? ⟨g6, 1, none⟩ = some (.slice A' ys.length c') := I10.out.2.1.cell 1
          have za1 : ∀ ob, (w10.drew.alloc ob).cell? ⟨g6, 1, none⟩ = some (.slice A' ys.length c') := fun ob => (IX.out.2.1.ext ((Ext.refl _).alloc ob)).cell 1
          have zb1 : ∀ ob, (w10.alloc ob).cell? ⟨g6, 1, none⟩ = some (.slice A' ys.length c') := fun ob => (I10.out.2.1.ext ((Ext.refl _).alloc ob)).cell 1
          have zn : ¬ g6 = w10.heap.size := by have := I10.out.2.1.lt; omega
          go_region_law (first | (refine stepV _ (by rfl) (.tmp 54) (.tmp 60) 38 (by rfl) 26 (.agg (acV Ac0 none 0 none 0)) 7 96 Tryd.underlying38 info_acct rfl (by decide) w7.heap.size A' ys.length c' (ys.flatMap Ax.cs) (by rfl) ⟨w10.drew.heap.size, 0, none⟩ 1 1 (x.cs) (by rfl) ?_ (IX.out.2.2.1.ext ((Ext.refl _).alloc _)) rfl (cells_new w10.drew _ _) (ax_one x) (by omega) (by omega) (by have := IX.out.2.2.2.1; simp at this ⊢; omega); intro A8 c8 w8 h8 q8 b8; have AP := IX.out.app (x := x) ((Ext.refl _).alloc _) h8 q8; have N8 := Lib.hid AP.2; have zq := AP.1.1; have fq := AP.1.2; clear h8 q8 b8 AP))
          all_goals
            go_wp2_with fail
            go_roundw
            case rel => exact ⟨k + 1, A8, c8, ys ++ [x], by omega, by go_num, by rw [qe], N8.out, by rw [acs_snoc, HY.out]; exact HX.out.2.symm, by simp; omega, HMS.out⟩
            case measure => simp [intOf]; omega
        · have HX := Lib.hid (HEQ.out k hlt h)
          have qd : decide (p < k) = false := decide_eq_false (by omega)
          have qe : decide (p < k + 1) = true := decide_eq_true (by omega)
          generalize xs[k] = x at *
          have ql : Op.bytesLess x.a.ten.toList b.ten.toList = false := by rw [ByteArray.toList_eq, ByteArray.toList_eq, less_cB]; exact decide_eq_false (by have := HX.out.1; show ¬ cB x.a.nm b.nm < 0; omega)
          go_wp2_with fail
          have KS := Lib.hid (fun W e => KS0.out W (I0.out.1.trans e))
          refine wp_region_quietE wr (Ext.refl _) (by kernel_rfl) (by kernel_rfl) ?_
          repeat (first | (apply wpq_skip; (focus rfl); (try simp only [Act.put, List.setIfInBounds_toArray, List.set_cons_zero, List.set_cons_succ])) | (apply wpq_take; (focus rfl); (focus (intro W hW; obtain ⟨a1, y0, ⟨x0, x1, x2, x3, x4, x5, x6⟩⟩ := KS.out W hW; go_simp; (first | done | with_reducible rfl))); (try simp only [Act.put, List.setIfInBounds_toArray, List.set_cons_zero, List.set_cons_succ])))
          refine wpq_nil ?_
          intro w9 S9
          clear KS
          have I9 := Lib.hid (I0.out.ext S9)
          have z1 : w9.cell? ⟨g6, 1, none⟩ = some (.slice A' ys.length c') := I9.out.2.1.cell 1
          obtain ⟨y0, y1, y2, y3, y4, y5, y6⟩ := ac_cells (W5.out.ext I9.out.1)
          go_wp2_with (first | (at_builtin; refine appV _ rfl (.tmp 39) (.tmp 41) 38 rfl 26 (.agg (acV Ac0 none 0 none 0)) 7 96 Tryd.underlying38 info_acct rfl (by decide) w7.heap.size A' ys.length c' (ys.flatMap Ax.cs) rfl ⟨w9.heap.size, 0, none⟩ 1 1 ((Ax.mk b L5 l5 C5 c5).cs) rfl ?_ (I9.out.2.2.1.ext ((Ext.refl _).alloc _)) rfl (cells_new w9 _ _) (ax_one (Ax.mk b L5 l5 C5 c5)) (by omega) (by omega) (by have := I9.out.2.2.2.1; simp at this ⊢; omega); intro A8 c8 w8 h8 q8 b8; have AP := I9.out.app (x := (Ax.mk b L5 l5 C5 c5)) ((Ext.refl _).alloc _) h8 q8; have N8 := Lib.hid AP.2; have zq := AP.1.1; have fq := AP.1.2; clear h8 q8 b8 AP))
          clear z1 y0 y1 y2 y3 y4 y5 y6 zq fq
          generalize w8.setCell ⟨g6, 1, none⟩ (.slice A8 (ys.length + 1) c8) = w12 at *
          rcases HX.out.2 with ⟨h2, h3⟩ | ⟨h2, h3⟩
          · have qn : (x.a.ten.toList == b.ten.toList) = true := by rw [str_beq]; exact decide_eq_true h2
            have qn2 : (x.a.ten.toList != b.ten.toList) = false := by simp [bne, qn]
            have H3 := Lib.hid h3
            clear h2 h3
            have KS := Lib.hid (fun W e => KS0.out W (N8.out.1.trans e))
            refine wp_region_quietE w12 (Ext.refl _) (by kernel_rfl) (by kernel_rfl) ?_
            repeat (first | (apply wpq_skip; (focus rfl); (try simp only [Act.put, List.setIfInBounds_toArray, List.set_cons_zero, List.set_cons_succ])) | (apply wpq_take; (focus rfl); (focus (intro W hW; obtain ⟨a1, y0, ⟨x0, x1, x2, x3, x4, x5, x6⟩⟩ := KS.out W hW; go_simp; (first | done | with_reducible rfl))); (try simp only [Act.put, List.setIfInBounds_toArray, List.set_cons_zero, List.set_cons_succ])))
            refine wpq_nil ?_
            intro w13 S13
            clear KS
            go_wp2_with fail
            go_roundw
            case rel => exact ⟨k + 1, A8, c8, ys ++ [(Ax.mk b L5 l5 C5 c5)], by omega, by go_num, by rw [qe], N8.out.ext S13, by rw [acs_snoc, HY.out]; exact H3.out.symm, by simp; omega, HMA.out⟩
            case measure => simp [intOf]; omega
          · have qn : (x.a.ten.toList == b.ten.toList) = false := by rw [str_beq]; exact decide_eq_false h2
            have qn2 : (x.a.ten.toList != b.ten.toList) = true := by simp [bne, qn]
            have H3 := Lib.hid h3
            clear h2 h3
            have KS := Lib.hid (fun W e => KS0.out W (N8.out.1.trans e))
            refine wp_region_quietE w12 (Ext.refl _) (by kernel_rfl) (by kernel_rfl) ?_
            repeat (first | (apply wpq_skip; (focus rfl); (try simp only [Act.put, List.setIfInBounds_toArray, List.set_cons_zero, List.set_cons_succ])) | (apply wpq_take; (focus rfl); (focus (intro W hW; obtain ⟨a1, y0, ⟨x0, x1, x2, x3, x4, x5, x6⟩⟩ := KS.out W hW; go_simp; (first | done | with_reducible rfl))); (try simp only [Act.put, List.setIfInBounds_toArray, List.set_cons_zero, List.set_cons_succ])))
            refine wpq_nil ?_
            intro w13 S13
            clear KS
            go_wp2_with fail
            have I13 := Lib.hid (N8.out.ext S13)
            clear N8
            obtain ⟨zs, hzs⟩ : ∃ zs, zs = ys ++ [(Ax.mk b L5 l5 C5 c5)] := ⟨_, rfl⟩
            have hzl : ys.length + 1 = zs.length := by rw [hzs]; simp
            rw [← hzs] at I13
            have HZS := Lib.hid hzs
            clear hzs
            have IX := Lib.hid (I13.out.ext (Ext.refl _).drew)
            obtain ⟨a1, y0, ⟨x0, x1, x2, x3, x4, x5, x6⟩⟩ := KS0.out _ I13.out.1
            have z1 : w13.cell? ⟨g6, 1, none⟩ = some (.slice A8 zs.length c8) := I13.out.2.1.cell 1
            have za1 : ∀ ob, (w13.drew.alloc ob).cell? ⟨g6, 1, none⟩ = some (.slice A8 zs.length c8) := fun ob => (IX.out.2.1.ext ((Ext.refl _).alloc ob)).cell 1
            have zb1 : ∀ ob, (w13.alloc ob).cell? ⟨g6, 1, none⟩ = some (.slice A8 zs.length c8) := fun ob => (I13.out.2.1.ext ((Ext.refl _).alloc ob)).cell 1
            have zn : ¬ g6 = w13.heap.size := by have := I13.out.2.1.lt; omega
            go_region_law (first | (refine stepV _ (by rfl) (.tmp 54) (.tmp 60) 38 (by rfl) 26 (.agg (acV Ac0 none 0 none 0)) 7 96 Tryd.underlying38 info_acct rfl (by decide) w7.heap.size A8 zs.length c8 (zs.flatMap Ax.cs) (by rfl) ⟨w13.drew.heap.size, 0, none⟩ 1 1 (x.cs) (by rfl) ?_ (IX.out.2.2.1.ext ((Ext.refl _).alloc _)) rfl (cells_new w13.drew _ _) (ax_one x) (by omega) (by omega) (by have := IX.out.2.2.2.1; simp at this ⊢; omega); intro A14 c14 w8 h8 q8 b8; have AP := IX.out.app (x := x) ((Ext.refl _).alloc _) h8 q8; have N8 := Lib.hid AP.2; have zq := AP.1.1; have fq := AP.1.2; clear h8 q8 b8 AP))
            all_goals
              go_wp2_with fail
              go_roundw
              case rel => exact ⟨k + 1, A14, c14, zs ++ [x], by omega, by go_num, by rw [qe], N8.out, by rw [acs_snoc, HZS.out, acs_snoc, HY.out]; exact H3.out.symm, by simp; omega, by rw [HZS.out]; exact HMB.out⟩
              case measure => simp [intOf]; omega
        · have HX := Lib.hid (HLT.out k hlt h)
          have qd : decide (p < k) = false := decide_eq_false (by omega)
          have qe : decide (p < k + 1) = false := decide_eq_false (by omega)
          generalize xs[k] = x at *
          have qn : (x.a.ten.toList == b.ten.toList) = false := by rw [str_beq]; exact decide_eq_false HX.out.2.1
          have qn2 : (x.a.ten.toList != b.ten.toList) = true := by simp [bne, qn]
          have ql : Op.bytesLess x.a.ten.toList b.ten.toList = true := by rw [ByteArray.toList_eq, ByteArray.toList_eq, less_cB]; exact decide_eq_true HX.out.1
          go_wp2_with fail
          have KS := Lib.hid (fun W e => KS0.out W (I0.out.1.trans e))
          refine wp_region_quietE wr (Ext.refl _) (by kernel_rfl) (by kernel_rfl) ?_
          repeat (first | (apply wpq_skip; (focus rfl); (try simp only [Act.put, List.setIfInBounds_toArray, List.set_cons_zero, List.set_cons_succ])) | (apply wpq_take; (focus rfl); (focus (intro W hW; obtain ⟨a1, y0, ⟨x0, x1, x2, x3, x4, x5, x6⟩⟩ := KS.out W hW; go_simp; (first | done | with_reducible rfl))); (try simp only [Act.put, List.setIfInBounds_toArray, List.set_cons_zero, List.set_cons_succ])))
          refine wpq_nil ?_
          intro w9 S9
          clear KS
          go_wp2_with fail
          have KS := Lib.hid (fun W e => KS0.out W ((I0.out.1.trans S9).trans e))
          refine wp_region_quietE w9 (Ext.refl _) (by kernel_rfl) (by kernel_rfl) ?_
          repeat (first | (apply wpq_skip; (focus rfl); (try simp only [Act.put, List.setIfInBounds_toArray, List.set_cons_zero, List.set_cons_succ])) | (apply wpq_take; (focus rfl); (focus (intro W hW; obtain ⟨a1, y0, ⟨x0, x1, x2, x3, x4, x5, x6⟩⟩ := KS.out W hW; go_simp; (first | done | with_reducible rfl))); (try simp only [Act.put, List.setIfInBounds_toArray, List.set_cons_zero, List.set_cons_succ])))
          refine wpq_nil ?_
          intro w10 S10
          clear KS
          go_wp2_with fail
          have I10 := Lib.hid ((I0.out.ext S9).ext S10)
          have IX := Lib.hid (I10.out.ext (Ext.refl _).drew)
          obtain ⟨a1, y0, ⟨x0, x1, x2, x3, x4, x5, x6⟩⟩ := KS0.out _ I10.out.1
          have z1 : w10.cell? ⟨g6, 1, none⟩ = some (.slice A' ys.length c') := I10.out.2.1.cell 1
          have za1 : ∀ ob, (w10.drew.alloc ob).cell? ⟨g6, 1, none⟩ = some (.slice A' ys.length c') := fun ob => (IX.out.2.1.ext ((Ext.refl _).alloc ob)).cell 1
          have zb1 : ∀ ob, (w10.alloc ob).cell? ⟨g6, 1, none⟩ = some (.slice A' ys.length c') := fun ob => (I10.out.2.1.ext ((Ext.refl _).alloc ob)).cell 1
          have zn : ¬ g6 = w10.heap.size := by have := I10.out.2.1.lt; omega
          go_region_law (first | (refine stepV _ (by rfl) (.tmp 54) (.tmp 60) 38 (by rfl) 26 (.agg (acV Ac0 none 0 none 0)) 7 96 Tryd.underlying38 info_acct rfl (by decide) w7.heap.size A' ys.length c' (ys.flatMap Ax.cs) (by rfl) ⟨w10.drew.heap.size, 0, none⟩ 1 1 (x.cs) (by rfl) ?_ (IX.out.2.2.1.ext ((Ext.refl _).alloc _)) rfl (cells_new w10.drew _ _) (ax_one x) (by omega) (by omega) (by have := IX.out.2.2.2.1; simp at this ⊢; omega); intro A8 c8 w8 h8 q8 b8; have AP := IX.out.app (x := x) ((Ext.refl _).alloc _) h8 q8; have N8 := Lib.hid AP.2; have zq := AP.1.1; have fq := AP.1.2; clear h8 q8 b8 AP))
          all_goals
            go_wp2_with fail
            go_roundw
            case rel => exact ⟨k + 1, A8, c8, ys ++ [x], by omega, by go_num, by rw [qe], N8.out, by rw [acs_snoc, HY.out]; exact HX.out.2.2.symm, by simp; omega, HMS.out⟩
            case measure => simp [intOf]; omega
      · have k1 : ¬ (k : Int) < (xs.length : Int) := by omega
        obtain rfl : k = xs.length := by omega
        by_cases hp : p < xs.length
        · have qd : decide (p < xs.length) = true := decide_eq_true hp
          have HE2 := HEN.out
          rw [if_pos hp] at HE2
          have HPL2 := Lib.hid (show acs ys = PL from by rw [HY.out, HE2])
          clear HE2 hp
          obtain ⟨AF, hAF⟩ : ∃ AF, AF = A' := ⟨_, rfl⟩
          obtain ⟨cF, hcF⟩ : ∃ cF, cF = c' := ⟨_, rfl⟩
          obtain ⟨zf, hzf⟩ : ∃ zf, zf = ys := ⟨_, rfl⟩
          subst hAF hcF hzf
          have IF := Lib.hid I0.out
          have MF := Lib.hid HM.out
          go_wp2_with (first | ((with_reducible show wpList _ _ _ ({ dst := some 71, op := Op.load 40 _, type := _, pos := _, after := _, guard := _ } :: _) _ _); refine ldA _ rfl 40 40 _ rfl g6 rfl _ _ IF.out.2.1 Tryd.underlying40 rfl size_lg ?_) | ((with_reducible show wpList _ _ _ ({ dst := none, op := Op.store 40 (Operand.tmp 4) _, type := _, pos := _, after := _, guard := _ } :: _) _ _); refine stA _ rfl 40 40 _ _ rfl g4 _ #[.int .u64 r.seq, .slice AF zf.length cF] rfl rfl (Z5.out.ext IF.out.1) size_lg rfl (lg_one _ _ _ _) ?_; intro wf hs kf qf; have Zf := Lib.hid kf; have Ef := Lib.hid ((E5.out.trans IF.out.1).grown qf (fun q hq => by injection hq with hq; have := G4.out; omega)); have Rf := Lib.hid (show RdL wf AF zf ∧ ∀ y ∈ zf, y.a.ok from ⟨⟨(IF.out.2.2.1.keep qf (.inr (fun he => by have := IF.out.2.2.1.base_ _ he; have := IF.out.2.2.2.2; have := S4.out; omega))).rde, fun y hy => by rcases MF.out y hy with h | rfl; exact (HB.out.each y h).ext Ef.out; exact OwnA.in_ ((OA.out.ext IF.out.1).keep qf (OA.out.off (.inl (by have := S4.out; omega))).1 (OA.out.off (.inl (by have := S4.out; omega))).2) HBO.out⟩, fun y hy => by rcases MF.out y hy with h | rfl; exact HOK.out y h; exact HBO.out⟩); clear hs kf qf))
          exact ret_row Tryd.results39 g4 _ _ _ rfl Zf.out Tryd.underlying40 rfl size_lg ⟨AF, cF, zf, rfl, HPL2.out, Rf.out.1, Rf.out.2, Ef.out⟩
        · have qd : decide (p < xs.length) = false := decide_eq_false hp
          have HE2 := HEN.out
          rw [if_neg hp] at HE2
          have HPL2 := Lib.hid (show acs (ys ++ [(Ax.mk b L5 l5 C5 c5)]) = PL from by rw [acs_snoc, HY.out, HE2])
          clear HE2 hp
          have z1 : wr.cell? ⟨g6, 1, none⟩ = some (.slice A' ys.length c') := I0.out.2.1.cell 1
          obtain ⟨y0, y1, y2, y3, y4, y5, y6⟩ := ac_cells (W5.out.ext I0.out.1)
          go_upto_region 14 with (first | (at_builtin; refine appV _ rfl (.tmp 66) (.tmp 68) 38 rfl 26 (.agg (acV Ac0 none 0 none 0)) 7 96 Tryd.underlying38 info_acct rfl (by decide) w7.heap.size A' ys.length c' (ys.flatMap Ax.cs) rfl ⟨wr.heap.size, 0, none⟩ 1 1 ((Ax.mk b L5 l5 C5 c5).cs) rfl ?_ (I0.out.2.2.1.ext ((Ext.refl _).alloc _)) rfl (cells_new wr _ _) (ax_one (Ax.mk b L5 l5 C5 c5)) (by omega) (by omega) (by have := I0.out.2.2.2.1; simp at this ⊢; omega); intro A8 c8 w8 h8 q8 b8; have AP := I0.out.app (x := (Ax.mk b L5 l5 C5 c5)) ((Ext.refl _).alloc _) h8 q8; have N8 := Lib.hid AP.2; have zq := AP.1.1; have fq := AP.1.2; clear h8 q8 b8 AP))
          clear z1 y0 y1 y2 y3 y4 y5 y6 zq fq
          generalize w8.setCell ⟨g6, 1, none⟩ (.slice A8 (ys.length + 1) c8) = w12 at *
          obtain ⟨AF, hAF⟩ : ∃ AF, AF = A8 := ⟨_, rfl⟩
          obtain ⟨cF, hcF⟩ : ∃ cF, cF = c8 := ⟨_, rfl⟩
          have MF : Hid (∀ y ∈ ys ++ [(Ax.mk b L5 l5 C5 c5)], y ∈ xs ∨ y = (Ax.mk b L5 l5 C5 c5)) := fun y hy => by
            rcases List.mem_append.1 hy with hy | hy
            · exact HM.out y hy
            · exact .inr (by simpa using hy)
          generalize ys ++ [(Ax.mk b L5 l5 C5 c5)] = zf at *
          subst hAF hcF
          have IF := Lib.hid N8.out
          go_wp2_with (first | ((with_reducible show wpList _ _ _ ({ dst := some 71, op := Op.load 40 _, type := _, pos := _, after := _, guard := _ } :: _) _ _); refine ldA _ rfl 40 40 _ rfl g6 rfl _ _ IF.out.2.1 Tryd.underlying40 rfl size_lg ?_) | ((with_reducible show wpList _ _ _ ({ dst := none, op := Op.store 40 (Operand.tmp 4) _, type := _, pos := _, after := _, guard := _ } :: _) _ _); refine stA _ rfl 40 40 _ _ rfl g4 _ #[.int .u64 r.seq, .slice AF zf.length cF] rfl rfl (Z5.out.ext IF.out.1) size_lg rfl (lg_one _ _ _ _) ?_; intro wf hs kf qf; have Zf := Lib.hid kf; have Ef := Lib.hid ((E5.out.trans IF.out.1).grown qf (fun q hq => by injection hq with hq; have := G4.out; omega)); have Rf := Lib.hid (show RdL wf AF zf ∧ ∀ y ∈ zf, y.a.ok from ⟨⟨(IF.out.2.2.1.keep qf (.inr (fun he => by have := IF.out.2.2.1.base_ _ he; have := IF.out.2.2.2.2; have := S4.out; omega))).rde, fun y hy => by rcases MF.out y hy with h | rfl; exact (HB.out.each y h).ext Ef.out; exact OwnA.in_ ((OA.out.ext IF.out.1).keep qf (OA.out.off (.inl (by have := S4.out; omega))).1 (OA.out.off (.inl (by have := S4.out; omega))).2) HBO.out⟩, fun y hy => by rcases MF.out y hy with h | rfl; exact HOK.out y h; exact HBO.out⟩); clear hs kf qf))
          exact ret_row Tryd.results39 g4 _ _ _ rfl Zf.out Tryd.underlying40 rfl size_lg ⟨AF, cF, zf, rfl, HPL2.out, Rf.out.1, Rf.out.2, Ef.out⟩
end Go.Proofs.YtkbjnlbbfapgdaaDoor

