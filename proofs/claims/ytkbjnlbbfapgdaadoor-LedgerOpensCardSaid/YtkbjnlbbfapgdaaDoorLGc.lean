/- ledger.Apply. ledger.Fold. Ledgers that came in by value; lists of records. The laws of chapter 16: whether the program answers at all; which ledgers are looked at. -/
import Derived.Test.YtkbjnlbbfapgdaaDoorLGb
import Derived.Test.YtkbjnlbbfapgdaaDoorLGa
import Derived.Test.YtkbjnlbbfapgdaaDoorLaw15
set_option maxRecDepth 100000
set_option linter.unusedVariables false
set_option linter.unusedSimpArgs false
namespace Go.Proofs.YtkbjnlbbfapgdaaDoor
open Go.RowKit

theorem Laid.lt {w : World} (h : Laid w) : 1 < w.heap.size := by
  have h0 := h 0 (by decide)
  simp only [World.cell?] at h0
  cases hh : w.heap[1]? with
  | none => simp [hh] at h0
  | some b => exact (Array.getElem?_eq_some_iff.1 hh).1
/-- a ledger of the call's own, and what is wrong -/
def RetLT (w : World) (seq : Nat) (l : List Ac) (x : Int) (e : Ending) (w' : World) : Prop := ∃ A c, ∃ xs : List Ax, e = .returned (.tuple #[lgA seq A xs.length c, .int .i64 x]) ∧ acs xs = l ∧ OwnL w' w.heap.size A c xs ∧ Ext w w'

set_option maxHeartbeats 8000000 in
theorem lgapply_ok (seq : Nat) (A : Option Addr) (c : Nat) (xs : List Ax) (r : Rc) (w : World) (hb : RdL w A xs) (hok : ∀ x ∈ xs, x.a.ok) (hl : xs.length ≤ 1000) (hr : Rises (acs xs)) (hrk : r.ok) (ht : r.ten.size ≤ 1000000) (hs : seq < 18446744073709551616)
    (hn : ∀ x ∈ xs, x.a.ls.length ≤ 90000 ∧ x.a.cl.length ≤ 90000) (hL : Laid w) (h0 : chkL seq (acs xs) r = 0) :
    Calls Tryd.prog 34 #[lgA seq A xs.length c, rcA r] w (RetLT w r.seq (comL (acs xs) r) 0) := by
  have HL := Lib.hid hL
  have HCK : Hid (∀ W, Ext w W → Calls Tryd.prog 36 #[(.agg #[.int .u64 seq, .slice A xs.length c]), (.agg #[.int .u64 r.seq, .int .i64 r.kind, .string r.ten, .int .u64 r.lease, .int .u64 r.n, .int .u64 r.bits])] W (RetV W (.int .i64 (chkL seq (acs xs) r)))) := fun W e => lgcheck_calls seq A c xs r W (hb.ext e) hok (by omega) hr hrk ht hs
  have HCL : Hid (∀ W, Ext w W → Calls Tryd.prog 47 #[(.agg #[.int .u64 seq, .slice A xs.length c])] W (fun e w' => ∃ A' c', ∃ ys : List Ax, e = .returned ((.agg #[.int .u64 seq, .slice A' ys.length c'])) ∧ acs ys = acs xs ∧ OwnL w' W.heap.size A' c' ys ∧ Ext W w')) := fun W e => lgclone_calls seq A c xs W (hb.ext e) hok (by omega)
  have HCO : Hid (∀ A' c' ys W base, OwnL W base A' c' ys → base ≤ W.heap.size → 1 < base → acs ys = acs xs → Ext w W → chkL seq (acs xs) r = 0 → Calls Tryd.prog 83 #[(.agg #[.int .u64 seq, .slice A' ys.length c']), (.agg #[.int .u64 r.seq, .int .i64 r.kind, .string r.ten, .int .u64 r.lease, .int .u64 r.n, .int .u64 r.bits])] W (fun e w' => ∃ A8 c8, ∃ zs : List Ax, e = .returned ((.agg #[.int .u64 r.seq, .slice A8 zs.length c8])) ∧ acs zs = comL (acs xs) r ∧ OwnL w' base A8 c8 zs ∧ W.grownBy w' (blk A') ∧ (blk A8 = blk A' ∨ ∃ g, blk A8 = some g ∧ W.heap.size ≤ g))) := fun A' c' ys W base O hb h1 hy e h0 => by
    have hyl : ys.length = xs.length := by have := congrArg List.length hy; simpa using this
    have hm : ∀ x ∈ ys, x.a.ls.length ≤ 90000 ∧ x.a.cl.length ≤ 90000 := fun x hx => by
      have : x.a ∈ acs xs := by rw [← hy]; exact List.mem_map_of_mem hx
      obtain ⟨z, hz, he⟩ := List.mem_map.1 this
      rw [← he]; exact hn z hz
    have := come_calls seq A' c' ys r W base O hb (by omega) (by rw [hy]; exact hr) hrk ht hs (by rw [hy]; exact h0) hm (HL.out.ext e) h1
    rw [hy] at this
    exact this
  have LT1 := Lib.hid hL.lt
  clear hb hok hr hrk ht hn hL
  rw [h0] at HCK
  have HCO := Lib.hid (fun A' c' ys W base O hb h1 hy e => HCO.out A' c' ys W base O hb h1 hy e h0)
  clear h0
  unfold lgA rcA
  go_enter Tryd.func34, Tryd.ntmps34
  go_wp2_with (first
    | ((with_reducible show wpList _ _ _ ({ dst := some 2, op := Op.box 40 _, type := _, pos := _, after := _, guard := _ } :: _) _ _); refine bxA _ rfl 40 _ rfl _ rfl ?_; intro g1 w1 hg hs1 k1 e1; have X0 := Lib.hid k1; have E0 := Lib.hid e1; clear hg hs1 k1 e1)
    | ((with_reducible show wpList _ _ _ ({ dst := some 3, op := Op.box 28 _, type := _, pos := _, after := _, guard := _ } :: _) _ _); refine bxA _ rfl 28 _ rfl _ rfl ?_; intro g3 w3 hg hs1 k1 e1; have Y1 := Lib.hid k1; have X1 := Lib.hid (X0.out.ext e1); have E1 := Lib.hid (E0.out.trans e1); clear hg hs1 k1 e1 X0 E0)
    | ((with_reducible show wpList _ _ _ ({ dst := some 4, op := Op.alloc 40, type := _, pos := _, after := _, guard := _ } :: _) _ _); refine alA _ rfl 40 rfl _ _ zero_lg ?_; intro g4 w4 hg hs1 k1 e1; have Z4 := Lib.hid k1; have X4 := Lib.hid (X1.out.ext e1); have Y4 := Lib.hid (Y1.out.ext e1); have E4 := Lib.hid (E1.out.trans e1); have G4 := Lib.hid (show w.heap.size ≤ g4 from by have := E1.out.size; omega); obtain ⟨a0, a1⟩ := lg_cells X4.out; obtain ⟨r0, r1, r2, r3, r4, r5⟩ := rc_cells Y4.out; clear hg hs1 k1 e1 X1 Y1 E1))
  refine (HCK.out _ E4.out).mono ?_
  rintro e w5 ⟨rfl, e5⟩
  have X5 := Lib.hid (X4.out.ext e5)
  have Y5 := Lib.hid (Y4.out.ext e5)
  have Z5 := Lib.hid (Z4.out.ext e5)
  have E5 := Lib.hid (E4.out.trans e5)
  clear e5 a0 a1 r0 r1 r2 r3 r4 r5 X4 Y4 Z4 E4 HCK
  obtain ⟨a0, a1⟩ := lg_cells X5.out
  obtain ⟨r0, r1, r2, r3, r4, r5⟩ := rc_cells Y5.out
  have HK : Hid (∀ A' c' ys W base, OwnL W base A' c' ys → base ≤ W.heap.size → 1 < base → acs ys = acs xs → Ext w W → Calls Tryd.prog 83 #[(.agg #[.int .u64 seq, .slice A' ys.length c']), (.agg #[.int .u64 r.seq, .int .i64 r.kind, .string r.ten, .int .u64 r.lease, .int .u64 r.n, .int .u64 r.bits])] W (fun e w' => ∃ A8 c8, ∃ zs : List Ax, e = .returned ((.agg #[.int .u64 r.seq, .slice A8 zs.length c8])) ∧ acs zs = comL (acs xs) r ∧ OwnL w' base A8 c8 zs ∧ W.grownBy w' (blk A') ∧ (blk A8 = blk A' ∨ ∃ g, blk A8 = some g ∧ W.heap.size ≤ g))) := fun A' c' ys W base O hb h1 hy e => HCO.out A' c' ys W base O hb h1 hy e
  clear HCO
  have RC : Hid (∀ W, Ext w5 W → W.cell? ⟨g3, 0, none⟩ = some (.int .u64 r.seq) ∧ W.cell? ⟨g3, 1, none⟩ = some (.int .i64 r.kind) ∧ W.cell? ⟨g3, 2, none⟩ = some (.string r.ten) ∧ W.cell? ⟨g3, 3, none⟩ = some (.int .u64 r.lease) ∧ W.cell? ⟨g3, 4, none⟩ = some (.int .u64 r.n) ∧ W.cell? ⟨g3, 5, none⟩ = some (.int .u64 r.bits)) := fun W e => rc_cells (Y5.out.ext e)
  clear r0 r1 r2 r3 r4 r5
  obtain ⟨r0, r1, r2, r3, r4, r5⟩ := RC.out _ (Ext.refl _)
  go_wp2_with fail
  go_region_with (first
    | (go_at_call 47; refine (HCL.out _ (E5.out.trans (by first | exact (Ext.refl _).drew | assumption | exact Ext.refl _))).mono ?_; rintro e w6 ⟨A6, c6, ys, rfl, hy6, o6, e6⟩; have T6 : Ext w5 w6 := Ext.trans (by first | exact (Ext.refl _).drew | assumption | exact Ext.refl _) e6; have O6 := Lib.hid o6; have HY6 := Lib.hid hy6; have D6 := Lib.hid (show ∃ b, OwnL w6 b A6 c6 ys ∧ w5.heap.size ≤ b ∧ b ≤ w6.heap.size from ⟨_, o6, by simp, e6.size⟩); have d6 := RC.out _ T6; obtain ⟨s0, s1, s2, s3, s4, s5⟩ := d6; clear e6 hy6 o6)
    | (go_at_call 83; have D7 := D6.out; obtain ⟨b7, p7, q7, l7⟩ := D7; have S7 := Lib.hid q7; have O7 := Lib.hid p7; refine (HK.out A6 c6 ys w6 b7 p7 l7 (by have := LT1.out; have := E5.out.size; omega) HY6.out (E5.out.trans T6)).mono ?_; rintro e w7 ⟨A7, c7, zs, rfl, hz7, o8, g8, b8⟩; have O8 := Lib.hid o8; have HZ8 := Lib.hid hz7; have Z8 := Lib.hid ((Z5.out.ext T6).off g8 (fun k hk => by have := (O7.out.1.base_ k hk).1; have := Z5.out.lt; have := S7.out; omega)); have E8 := Lib.hid ((E5.out.trans T6).grown g8 (fun k hk => by have := (O7.out.1.base_ k hk).1; have := S7.out; have := E5.out.size; omega)); have F8 := Lib.hid (show g4 < b7 from by have := Z5.out.lt; have := S7.out; omega); have f0 := Z8.out.frozen 0; have f1 := Z8.out.frozen 1; obtain ⟨z0, z1⟩ := lg_cells Z8.out; clear hz7 o8 g8 b8 p7 q7 l7))
  all_goals
    have Z9 : Hid (Arr ((w7.setCell ⟨g4, 0, none⟩ (.int .u64 r.seq)).setCell ⟨g4, 1, none⟩ (.slice A7 zs.length c7)) g4 40 #[.int .u64 r.seq, .slice A7 zs.length c7]) := (Z8.out.set 0 _).set 1 _
    have E9 : Hid (Ext w ((w7.setCell ⟨g4, 0, none⟩ (.int .u64 r.seq)).setCell ⟨g4, 1, none⟩ (.slice A7 zs.length c7))) := (E8.out.setCell (p := ⟨g4, 0, none⟩) G4.out _).setCell (p := ⟨g4, 1, none⟩) G4.out _
    have O9 : Hid (OwnL ((w7.setCell ⟨g4, 0, none⟩ (.int .u64 r.seq)).setCell ⟨g4, 1, none⟩ (.slice A7 zs.length c7)) b7 A7 c7 zs) := O8.out.keep ((grown_setCell w7 g4 0 _).trans (grown_setCell _ g4 1 _)) (O8.out.off (.inl F8.out))
    have L9 : Hid (w.heap.size ≤ b7) := Nat.le_trans E5.out.size S7.out
    go_wp2_with fail
    exact ret_rowT Tryd.results34 g4 _ _ _ _ rfl rfl Z9.out Tryd.underlying40 rfl size_lg ⟨A7, c7, zs, rfl, HZ8.out, O9.out.lower L9.out, E9.out⟩
set_option maxHeartbeats 8000000 in
theorem lgapply_err (seq : Nat) (A : Option Addr) (c : Nat) (xs : List Ax) (r : Rc) (w : World) (hb : RdL w A xs) (hok : ∀ x ∈ xs, x.a.ok) (hl : xs.length ≤ 1000) (hr : Rises (acs xs)) (hrk : r.ok) (ht : r.ten.size ≤ 1000000) (hs : seq < 18446744073709551616)
    (hn : ∀ x ∈ xs, x.a.ls.length ≤ 90000 ∧ x.a.cl.length ≤ 90000) (hL : Laid w) (h0 : chkL seq (acs xs) r ≠ 0) :
    Calls Tryd.prog 34 #[lgA seq A xs.length c, rcA r] w (RetLT w 0 [] (chkL seq (acs xs) r)) := by
  have HL := Lib.hid hL
  have HCK : Hid (∀ W, Ext w W → Calls Tryd.prog 36 #[(.agg #[.int .u64 seq, .slice A xs.length c]), (.agg #[.int .u64 r.seq, .int .i64 r.kind, .string r.ten, .int .u64 r.lease, .int .u64 r.n, .int .u64 r.bits])] W (RetV W (.int .i64 (chkL seq (acs xs) r)))) := fun W e => lgcheck_calls seq A c xs r W (hb.ext e) hok (by omega) hr hrk ht hs
  have HCL : Hid (∀ W, Ext w W → Calls Tryd.prog 47 #[(.agg #[.int .u64 seq, .slice A xs.length c])] W (fun e w' => ∃ A' c', ∃ ys : List Ax, e = .returned ((.agg #[.int .u64 seq, .slice A' ys.length c'])) ∧ acs ys = acs xs ∧ OwnL w' W.heap.size A' c' ys ∧ Ext W w')) := fun W e => lgclone_calls seq A c xs W (hb.ext e) hok (by omega)
  have LT1 := Lib.hid hL.lt
  clear hb hok hr hrk ht hn hL
  have q0 : (chkL seq (acs xs) r != 0) = true := by simpa using h0
  clear h0
  generalize chkL seq (acs xs) r = E at *
  unfold lgA rcA
  go_enter Tryd.func34, Tryd.ntmps34
  go_wp2_with (first
    | ((with_reducible show wpList _ _ _ ({ dst := some 2, op := Op.box 40 _, type := _, pos := _, after := _, guard := _ } :: _) _ _); refine bxA _ rfl 40 _ rfl _ rfl ?_; intro g1 w1 hg hs1 k1 e1; have X0 := Lib.hid k1; have E0 := Lib.hid e1; clear hg hs1 k1 e1)
    | ((with_reducible show wpList _ _ _ ({ dst := some 3, op := Op.box 28 _, type := _, pos := _, after := _, guard := _ } :: _) _ _); refine bxA _ rfl 28 _ rfl _ rfl ?_; intro g3 w3 hg hs1 k1 e1; have Y1 := Lib.hid k1; have X1 := Lib.hid (X0.out.ext e1); have E1 := Lib.hid (E0.out.trans e1); clear hg hs1 k1 e1 X0 E0)
    | ((with_reducible show wpList _ _ _ ({ dst := some 4, op := Op.alloc 40, type := _, pos := _, after := _, guard := _ } :: _) _ _); refine alA _ rfl 40 rfl _ _ zero_lg ?_; intro g4 w4 hg hs1 k1 e1; have Z4 := Lib.hid k1; have X4 := Lib.hid (X1.out.ext e1); have Y4 := Lib.hid (Y1.out.ext e1); have E4 := Lib.hid (E1.out.trans e1); have G4 := Lib.hid (show w.heap.size ≤ g4 from by have := E1.out.size; omega); obtain ⟨a0, a1⟩ := lg_cells X4.out; obtain ⟨r0, r1, r2, r3, r4, r5⟩ := rc_cells Y4.out; clear hg hs1 k1 e1 X1 Y1 E1))
  refine (HCK.out _ E4.out).mono ?_
  rintro e w5 ⟨rfl, e5⟩
  have X5 := Lib.hid (X4.out.ext e5)
  have Y5 := Lib.hid (Y4.out.ext e5)
  have Z5 := Lib.hid (Z4.out.ext e5)
  have E5 := Lib.hid (E4.out.trans e5)
  clear e5 a0 a1 r0 r1 r2 r3 r4 r5 X4 Y4 Z4 E4 HCK
  obtain ⟨a0, a1⟩ := lg_cells X5.out
  obtain ⟨r0, r1, r2, r3, r4, r5⟩ := rc_cells Y5.out
  clear HCL
  go_wp2_with (first
    | ((with_reducible show wpList _ _ _ ({ dst := none, op := Op.store 40 _ _, type := _, pos := _, after := _, guard := _ } :: _) _ _); refine stA _ rfl 40 40 _ _ rfl g4 _ #[.int .u64 0, .slice none 0 0] rfl rfl Z5.out size_lg rfl (lg_one 0 none 0 0) ?_; intro w6 hs k4 g6; have Z6 := Lib.hid k4; have E6 := Lib.hid (E5.out.grown g6 (fun k hk => by injection hk with hk; have := G4.out; omega)); clear hs k4 g6))
  exact ret_rowT Tryd.results34 g4 _ _ _ _ rfl rfl Z6.out Tryd.underlying40 rfl size_lg ⟨none, 0, [], rfl, rfl, OwnL.nil _ _, E6.out⟩
end Go.Proofs.YtkbjnlbbfapgdaaDoor

namespace Go.Proofs.YtkbjnlbbfapgdaaDoor
open Go.RowKit

/-- records, one behind the other, up to the first that may not come -/
def foldLg (seq : Nat) (l : List Ac) : List Rc → Nat × List Ac × Nat
  | [] => (seq, l, 0)
  | r :: rs => if chkL seq l r = 0 then ((foldLg r.seq (comL l r) rs).1, (foldLg r.seq (comL l r) rs).2.1, (foldLg r.seq (comL l r) rs).2.2 + 1) else (seq, l, 0)
def rcs (r : Rc) : List Value := [.int .u64 r.seq, .int .i64 r.kind, .string r.ten, .int .u64 r.lease, .int .u64 r.n, .int .u64 r.bits]
theorem zero_rc : (Tryd.prog.info? 28).map (fun i => (i.zero, i.size)) = some (some (.agg #[.int .u64 0, .int .i64 0, .string ByteArray.empty, .int .u64 0, .int .u64 0, .int .u64 0]), 6) := by kernel_rfl
theorem size_rc : (Tryd.prog.info? 28).map (·.size) = some 6 := by kernel_rfl
theorem rcs_len (r : Rc) : (rcs r).length = 6 := rfl
theorem rc_one (r : Rc) : ∀ v ∈ rcV r, v.oneCell' = true := by
  intro v hv
  simp [rcV] at hv
  rcases hv with rfl | rfl | rfl | rfl | rfl | rfl <;> rfl
theorem RdE.sixR {w : World} {A : Option Addr} {xs : List Rc} (h : RdE rcs w A xs) {i : Nat} (hi : i < xs.length) : ∃ ad, A = some ad ∧ w.cell? (ad.add (i * 6)) = some (.int .u64 xs[i].seq) ∧ w.cell? ⟨(ad.add (i * 6)).block, (ad.add (i * 6)).off + 1, none⟩ = some (.int .i64 xs[i].kind) ∧ w.cell? ⟨(ad.add (i * 6)).block, (ad.add (i * 6)).off + 2, none⟩ = some (.string xs[i].ten) ∧
    w.cell? ⟨(ad.add (i * 6)).block, (ad.add (i * 6)).off + 3, none⟩ = some (.int .u64 xs[i].lease) ∧ w.cell? ⟨(ad.add (i * 6)).block, (ad.add (i * 6)).off + 4, none⟩ = some (.int .u64 xs[i].n) ∧ w.cell? ⟨(ad.add (i * 6)).block, (ad.add (i * 6)).off + 5, none⟩ = some (.int .u64 xs[i].bits) := by
  obtain ⟨ad, ha, hc⟩ := RdE.at_ rcs_len h hi (by decide)
  refine ⟨ad, ha, hc 0 _ rfl, ?_, ?_, ?_, ?_, ?_⟩
  · rw [← add_off _ 1 (by decide)]; exact hc 1 _ rfl
  · rw [← add_off _ 2 (by decide)]; exact hc 2 _ rfl
  · rw [← add_off _ 3 (by decide)]; exact hc 3 _ rfl
  · rw [← add_off _ 4 (by decide)]; exact hc 4 _ rfl
  · rw [← add_off _ 5 (by decide)]; exact hc 5 _ rfl
theorem com_lens {l : List Ac} {r : Rc} {m : Nat} (h : ∀ a ∈ l, a.ls.length ≤ m ∧ a.cl.length ≤ m) : ∀ a ∈ comL l r, a.ls.length ≤ m + 1 ∧ a.cl.length ≤ m + 1 := by
  intro a ha
  rcases put_mem ha with rfl | ha
  · have h1 := appA_lens (accOf l r.ten) r
    rcases acc_mem l r.ten with h2 | h2
    · have := h _ h2; omega
    · rw [h2] at h1 ⊢
      have e1 : (acNone r.ten).ls.length = 0 := rfl
      have e2 : (acNone r.ten).cl.length = 0 := rfl
      omega
  · have := h a ha; omega
theorem com_len1 (l : List Ac) (r : Rc) : (comL l r).length ≤ l.length + 1 := by unfold comL; rw [put_len]; split <;> omega

set_option maxHeartbeats 8000000 in
theorem lgfold_calls (seq : Nat) (A : Option Addr) (c : Nat) (xs : List Ax) (R : Option Addr) (rc : Nat) (rs : List Rc) (w : World) (hb : RdL w A xs) (hok : ∀ x ∈ xs, x.a.ok) (hl : xs.length ≤ 100) (hr : Rises (acs xs)) (hs : seq < 18446744073709551616)
    (hn : ∀ x ∈ xs, x.a.ls.length ≤ 1000 ∧ x.a.cl.length ≤ 1000) (hR : RdE rcs w R rs) (hrs : ∀ r ∈ rs, r.ok ∧ r.ten.size ≤ 1000000) (hrl : rs.length ≤ 1000) (hL : Laid w) :
    Calls Tryd.prog 41 #[lgA seq A xs.length c, .slice R rs.length rc] w (fun e w' => ∃ A' c', ∃ ys : List Ax, e = .returned (.tuple #[(.agg #[.int .u64 (foldLg seq (acs xs) rs).1, .slice A' ys.length c']), .int .i64 ((foldLg seq (acs xs) rs).2.2 : Nat)]) ∧ acs ys = (foldLg seq (acs xs) rs).2.1 ∧ OwnL w' w.heap.size A' c' ys ∧ Ext w w') := by
  have HL := Lib.hid hL
  have LT1 := Lib.hid hL.lt
  have HR := Lib.hid hR
  have HRS := Lib.hid hrs
  have HCL : Hid (∀ W, Ext w W → Calls Tryd.prog 47 #[(.agg #[.int .u64 seq, .slice A xs.length c])] W (fun e w' => ∃ A' c', ∃ ys : List Ax, e = .returned ((.agg #[.int .u64 seq, .slice A' ys.length c'])) ∧ acs ys = acs xs ∧ OwnL w' W.heap.size A' c' ys ∧ Ext W w')) := fun W e => lgclone_calls seq A c xs W (hb.ext e) hok (by omega)
  have HRI := Lib.hid hr
  have HN : Hid (∀ a ∈ acs xs, a.ls.length ≤ 1000 ∧ a.cl.length ≤ 1000) := fun a ha => by
    obtain ⟨x, hx, rfl⟩ := List.mem_map.1 ha
    exact hn x hx
  have HXL : Hid ((acs xs).length ≤ 100) := by show _ ≤ _; simpa using hl
  clear hb hok hr hn hR hrs hL hl
  generalize acs xs = l0 at *
  obtain ⟨F, hF⟩ : ∃ F, F = foldLg seq l0 rs := ⟨_, rfl⟩
  rw [← hF]
  have HFF := Lib.hid hF
  clear hF
  unfold lgA
  go_enter Tryd.func41, Tryd.ntmps41
  go_wp2_with (first
    | ((with_reducible show wpList _ _ _ ({ dst := some 2, op := Op.box 40 _, type := _, pos := _, after := _, guard := _ } :: _) _ _); refine bxA _ rfl 40 _ rfl _ rfl ?_; intro g2 w1 hg hs1 k1 e1; have X1 := Lib.hid k1; have E1 := Lib.hid e1; have G2 := Lib.hid (Nat.le_of_eq hg); clear hg hs1 k1 e1)
    | ((with_reducible show wpList _ _ _ ({ dst := some 4, op := Op.alloc 40, type := _, pos := _, after := _, guard := _ } :: _) _ _); refine alA _ rfl 40 rfl _ _ zero_lg ?_; intro g4 w4 hg hs1 k1 e1; have Z4 := Lib.hid k1; have X4 := Lib.hid (X1.out.ext e1); have E4 := Lib.hid (E1.out.trans e1); have G4 := Lib.hid (show w.heap.size ≤ g4 ∧ g2 < g4 from ⟨by have := E1.out.size; omega, by have := X1.out.lt; omega⟩); obtain ⟨a0, a1⟩ := lg_cells X4.out; clear hg hs1 k1 e1 X1 E1)
    | (go_at_call 47; refine (HCL.out _ E4.out).mono ?_; rintro e w5 ⟨A5, c5, ys0, rfl, hy5, o5, e5⟩; have HY5 := Lib.hid hy5; have O5 := Lib.hid o5; have X5 := Lib.hid (X4.out.ext e5); have Z5 := Lib.hid (Z4.out.ext e5); have E5 := Lib.hid (E4.out.trans e5); have B5 : Hid (g2 < w4.heap.size ∧ g4 < w4.heap.size ∧ w4.heap.size ≤ w5.heap.size ∧ w.heap.size ≤ w4.heap.size) := ⟨X4.out.lt, Z4.out.lt, e5.size, E4.out.size⟩; clear hy5 o5 e5 a0 a1 HCL)
    | ((with_reducible show wpList _ _ _ ({ dst := none, op := Op.store 40 (Operand.tmp 2) _, type := _, pos := _, after := _, guard := _ } :: _) _ _); refine stA _ rfl 40 40 _ _ rfl g2 _ #[.int .u64 seq, .slice A5 ys0.length c5] rfl rfl X5.out size_lg rfl (lg_one _ _ _ _) ?_; intro w6 hs6 k6 g6; have X6 := Lib.hid k6; have Z6 := Lib.hid (Z5.out.grown g6 (by have := G4.out.2; intro hh; injection hh; omega)); have E6 := Lib.hid (E5.out.grown g6 (fun k hk => by injection hk with hk; have := G2.out; omega)); have O6 := Lib.hid (O5.out.keep g6 (O5.out.off (.inl B5.out.1))); have S6 := Lib.hid hs6; clear hs6 k6 g6))
  obtain ⟨b, hbb⟩ : ∃ b, b = w4.heap.size := ⟨_, rfl⟩
  have BB : Hid (g2 < b ∧ g4 < b ∧ b ≤ w6.heap.size ∧ w.heap.size ≤ b) := ⟨by have := B5.out; omega, by have := B5.out; omega, by have := B5.out; have := S6.out; omega, by have := B5.out; omega⟩
  rw [← hbb] at O6
  clear hbb B5 O5 X5 Z5 E5 X4 Z4 E4 S6
  have HS := Lib.hid hs
  have HRL := Lib.hid hrl
  have HF0 : Hid (F = foldLg seq (acs ys0) (rs.drop 0)) := by show _ = _; rw [HY5.out, HFF.out, List.drop_zero]
  clear hs hrl
  go_loopw [6, 12] (fun _ i wr => ∃ k sq A' c', ∃ ys : List Ax, k ≤ rs.length ∧ i = .int .i64 (k : Nat) ∧ sq < 18446744073709551616 ∧ F = ((foldLg sq (acs ys) (rs.drop k)).1, (foldLg sq (acs ys) (rs.drop k)).2.1, (foldLg sq (acs ys) (rs.drop k)).2.2 + k) ∧ Rises (acs ys) ∧ (∀ a ∈ acs ys, a.ls.length ≤ 1000 + k ∧ a.cl.length ≤ 1000 + k) ∧ (acs ys).length ≤ 100 + k ∧
    Arr wr g2 40 #[.int .u64 sq, .slice A' ys.length c'] ∧ Arr wr g4 40 #[.int .u64 0, .slice none 0 0] ∧ OwnL wr b A' c' ys ∧ Ext w wr ∧ w6.heap.size ≤ wr.heap.size) (fun _ i _ => rs.length - (intOf i).toNat)
  case atStart => exact ⟨0, seq, A5, c5, ys0, Nat.zero_le _, rfl, HS.out, by rw [HF0.out]; rfl, by rw [HY5.out]; exact HRI.out, by rw [HY5.out]; exact HN.out, by rw [HY5.out]; exact HXL.out, X6.out, Z6.out, O6.out, E6.out, Nat.le_refl _⟩
  case round =>
    obtain ⟨k, sq, A', c', ys, hk, rfl, hsq, hF, hri, hln, hxl, x0', z0', o0', e0', s0'⟩ := hrel
    have HF := Lib.hid hF
    have HRI0 := Lib.hid hri
    have HLN := Lib.hid hln
    have HXL0 := Lib.hid hxl
    have X0 := Lib.hid x0'
    have Z0 := Lib.hid z0'
    have O0 := Lib.hid o0'
    have E0 := Lib.hid e0'
    have S0 := Lib.hid s0'
    have HSQ := Lib.hid hsq
    clear hF hri hln hxl x0' z0' o0' e0' s0' hsq HF0 X6 Z6 O6 E6 HN HXL HRI
    by_cases hlt : k < rs.length
    · obtain ⟨ad, rfl, r0, r1, r2, r3, r4, r5⟩ := (HR.out.ext E0.out).sixR hlt
      have hrk := HRS.out _ (List.getElem_mem hlt)
      have HD := Lib.hid (drop_cons hlt)
      have k1 : (k : Int) < (rs.length : Int) := by omega
      have hkr : k + 1 ≤ 1000 := by have := HRL.out; omega
      generalize rs[k] = r at *
      have HRK := Lib.hid hrk
      clear hrk
      have hylen : ys.length ≤ 1100 := by have := HXL0.out; simp at this; omega
      have HCK : Hid (∀ W, Ext wr W → Calls Tryd.prog 36 #[(.agg #[.int .u64 sq, .slice A' ys.length c']), (.agg #[.int .u64 r.seq, .int .i64 r.kind, .string r.ten, .int .u64 r.lease, .int .u64 r.n, .int .u64 r.bits])] W (RetV W (.int .i64 (chkL sq (acs ys) r)))) := fun W e => lgcheck_calls sq A' c' ys r W (O0.out.rdl.ext e) (fun x hx => (O0.out.2 x hx).2.1) (by omega) HRI0.out HRK.out.1 HRK.out.2 HSQ.out
      by_cases hc : chkL sq (acs ys) r = 0
      · have HCO : Hid (∀ W, Ext wr W → Calls Tryd.prog 83 #[(.agg #[.int .u64 sq, .slice A' ys.length c']), (.agg #[.int .u64 r.seq, .int .i64 r.kind, .string r.ten, .int .u64 r.lease, .int .u64 r.n, .int .u64 r.bits])] W (fun e w' => ∃ A8 c8, ∃ zs : List Ax, e = .returned ((.agg #[.int .u64 r.seq, .slice A8 zs.length c8])) ∧ acs zs = comL (acs ys) r ∧ OwnL w' b A8 c8 zs ∧ W.grownBy w' (blk A') ∧ (blk A8 = blk A' ∨ ∃ g, blk A8 = some g ∧ W.heap.size ≤ g))) := fun W e =>
          come_calls sq A' c' ys r W b (O0.out.ext e) (by have := BB.out; have := S0.out; have := e.size; omega) (by omega) HRI0.out HRK.out.1 HRK.out.2 HSQ.out hc (fun x hx => by have := HLN.out x.a (List.mem_map_of_mem hx); omega) (HL.out.ext (E0.out.trans e)) (by have := LT1.out; have := BB.out; omega)
        have HF1 : Hid (F = ((foldLg r.seq (comL (acs ys) r) (rs.drop (k + 1))).1, (foldLg r.seq (comL (acs ys) r) (rs.drop (k + 1))).2.1, (foldLg r.seq (comL (acs ys) r) (rs.drop (k + 1))).2.2 + (k + 1))) := by
          show _ = _
          rw [HF.out, HD.out]
          simp only [foldLg]
          rw [if_pos hc]
          simp only [Prod.mk.injEq, true_and]
          omega
        rw [hc] at HCK
        clear hc
        go_wp2_with (first
          | ((with_reducible show wpList _ _ _ ({ dst := some 7, op := Op.alloc 28, type := _, pos := _, after := _, guard := _ } :: _) _ _); refine alA _ rfl 28 rfl _ _ zero_rc ?_; intro g7 w7 hg hs1 k3 e3; have Y7 := Lib.hid k3; have T7 := Lib.hid e3; have G7 := Lib.hid (Nat.le_of_eq hg); clear hg hs1 k3 e3 r0 r1 r2 r3 r4 r5)
          | ((with_reducible show wpList _ _ _ ({ dst := none, op := Op.store 28 _ _, type := _, pos := _, after := _, guard := _ } :: _) _ _); refine stA _ rfl 28 28 _ _ rfl g7 _ (rcV r) rfl rfl Y7.out size_rc rfl (rc_one _) ?_; intro w8 hs8 k8 g8; have Y8 := Lib.hid k8; have T8 := Lib.hid (T7.out.grown g8 (fun q hq => by injection hq with hq; have := G7.out; omega)); obtain ⟨r0, r1, r2, r3, r4, r5⟩ := rc_cells k8; obtain ⟨a0, a1⟩ := lg_cells (X0.out.ext T8.out); clear hs8 k8 g8)
          | (go_at_call 36; refine (HCK.out _ T8.out).mono ?_; rintro e w9 ⟨rfl, e9⟩; have T9 := Lib.hid (T8.out.trans e9); have Y9 := Lib.hid (Y8.out.ext e9); clear e9 a0 a1 r0 r1 r2 r3 r4 r5; obtain ⟨r0, r1, r2, r3, r4, r5⟩ := rc_cells Y9.out; obtain ⟨a0, a1⟩ := lg_cells (X0.out.ext T9.out))
          | (go_at_call 83; refine (HCO.out _ T9.out).mono ?_; rintro e w10 ⟨A8, c8, zs, rfl, hz, o10, g10, b10⟩; have O10 := Lib.hid o10; have HZ := Lib.hid hz; have X10 := Lib.hid ((X0.out.ext T9.out).off g10 (fun q hq => by have := (O0.out.1.base_ q hq).1; have := BB.out; omega)); have Z10 := Lib.hid ((Z0.out.ext T9.out).off g10 (fun q hq => by have := (O0.out.1.base_ q hq).1; have := BB.out; omega)); have E10 := Lib.hid ((E0.out.trans T9.out).grown g10 (fun q hq => by have := (O0.out.1.base_ q hq).1; have := BB.out; omega)); have S10 : Hid (w6.heap.size ≤ w10.heap.size) := Nat.le_trans S0.out (Nat.le_trans T9.out.size g10.size); clear hz o10 g10 b10 a0 a1 r0 r1 r2 r3 r4 r5)
          | ((with_reducible show wpList _ _ _ ({ dst := none, op := Op.store 40 (Operand.tmp 2) _, type := _, pos := _, after := _, guard := _ } :: _) _ _); refine stA _ rfl 40 40 _ _ rfl g2 _ #[.int .u64 r.seq, .slice A8 zs.length c8] rfl rfl X10.out size_lg rfl (lg_one _ _ _ _) ?_; intro w11 hs11 k11 g11; have X11 := Lib.hid k11; have Z11 := Lib.hid (Z10.out.grown g11 (by have := G4.out.2; intro hh; injection hh; omega)); have E11 := Lib.hid (E10.out.grown g11 (fun q hq => by injection hq with hq; have := G2.out; omega)); have O11 := Lib.hid (O10.out.keep g11 (O10.out.off (.inl BB.out.1))); have S11 : Hid (w6.heap.size ≤ w11.heap.size) := Nat.le_trans S10.out (Nat.le_of_eq hs11.symm); clear hs11 k11 g11))
        go_roundw
        case rel => exact ⟨k + 1, r.seq, A8, c8, zs, by omega, by go_num, HRK.out.1.1, by rw [HZ.out]; exact HF1.out, by rw [HZ.out]; exact com_rises HRI0.out r, by rw [HZ.out]; exact fun a ha => by have := com_lens HLN.out a ha; omega, by rw [HZ.out]; have := com_len1 (acs ys) r; have := HXL0.out; omega, X11.out, Z11.out, O11.out, E11.out, S11.out⟩
        case measure => simp [intOf]; omega
      · have HF1 : Hid (F = (sq, acs ys, k)) := by
          show _ = _
          rw [HF.out, HD.out]
          simp only [foldLg]
          rw [if_neg hc]
          simp
        have q0 : (chkL sq (acs ys) r != 0) = true := by simpa using hc
        clear hc
        generalize chkL sq (acs ys) r = V at *
        go_wp2_with (first
          | ((with_reducible show wpList _ _ _ ({ dst := some 7, op := Op.alloc 28, type := _, pos := _, after := _, guard := _ } :: _) _ _); refine alA _ rfl 28 rfl _ _ zero_rc ?_; intro g7 w7 hg hs1 k3 e3; have Y7 := Lib.hid k3; have T7 := Lib.hid e3; have G7 := Lib.hid (Nat.le_of_eq hg); clear hg hs1 k3 e3 r0 r1 r2 r3 r4 r5)
          | ((with_reducible show wpList _ _ _ ({ dst := none, op := Op.store 28 _ _, type := _, pos := _, after := _, guard := _ } :: _) _ _); refine stA _ rfl 28 28 _ _ rfl g7 _ (rcV r) rfl rfl Y7.out size_rc rfl (rc_one _) ?_; intro w8 hs8 k8 g8; have Y8 := Lib.hid k8; have T8 := Lib.hid (T7.out.grown g8 (fun q hq => by injection hq with hq; have := G7.out; omega)); obtain ⟨r0, r1, r2, r3, r4, r5⟩ := rc_cells k8; obtain ⟨a0, a1⟩ := lg_cells (X0.out.ext T8.out); clear hs8 k8 g8)
          | (go_at_call 36; refine (HCK.out _ T8.out).mono ?_; rintro e w9 ⟨rfl, e9⟩; have T9 := Lib.hid (T8.out.trans e9); clear e9 a0 a1 r0 r1 r2 r3 r4 r5; obtain ⟨a0, a1⟩ := lg_cells (X0.out.ext T9.out); have Z9 := Lib.hid (Z0.out.ext T9.out); have O9 := Lib.hid (O0.out.ext T9.out); have E9 := Lib.hid (E0.out.trans T9.out))
          | ((with_reducible show wpList _ _ _ ({ dst := none, op := Op.store 40 (Operand.tmp 4) _, type := _, pos := _, after := _, guard := _ } :: _) _ _); refine stA _ rfl 40 40 _ _ rfl g4 _ #[.int .u64 sq, .slice A' ys.length c'] rfl rfl Z9.out size_lg rfl (lg_one _ _ _ _) ?_; intro w11 hs11 k11 g11; have Z11 := Lib.hid k11; have E11 := Lib.hid (E9.out.grown g11 (fun q hq => by injection hq with hq; have := G4.out; omega)); have O11 := Lib.hid (O9.out.keep g11 (O9.out.off (.inl BB.out.2.1))); clear hs11 k11 g11))
        exact ret_rowT Tryd.results41 g4 _ _ _ _ rfl rfl Z11.out Tryd.underlying40 rfl size_lg ⟨A', c', ys, by have h := HF1.out; subst h; rfl, by have h := HF1.out; subst h; rfl, O11.out.lower BB.out.2.2.2, E11.out⟩
    · obtain rfl : k = rs.length := by omega
      have HF1 : Hid (F = (sq, acs ys, rs.length)) := by
        show _ = _
        rw [HF.out, List.drop_of_length_le (Nat.le_refl _)]
        simp [foldLg]
      obtain ⟨a0, a1⟩ := lg_cells X0.out
      go_wp2_with (first
        | ((with_reducible show wpList _ _ _ ({ dst := none, op := Op.store 40 (Operand.tmp 4) _, type := _, pos := _, after := _, guard := _ } :: _) _ _); refine stA _ rfl 40 40 _ _ rfl g4 _ #[.int .u64 sq, .slice A' ys.length c'] rfl rfl Z0.out size_lg rfl (lg_one _ _ _ _) ?_; intro w11 hs11 k11 g11; have Z11 := Lib.hid k11; have E11 := Lib.hid (E0.out.grown g11 (fun q hq => by injection hq with hq; have := G4.out; omega)); have O11 := Lib.hid (O0.out.keep g11 (O0.out.off (.inl BB.out.2.1))); clear hs11 k11 g11))
      exact ret_rowT Tryd.results41 g4 _ _ _ _ rfl rfl Z11.out Tryd.underlying40 rfl size_lg ⟨A', c', ys, by have h := HF1.out; subst h; rfl, by have h := HF1.out; subst h; rfl, O11.out.lower BB.out.2.2.2, E11.out⟩
end Go.Proofs.YtkbjnlbbfapgdaaDoor

namespace Go.Proofs.YtkbjnlbbfapgdaaDoor
open Go.RowKit Go.ChangeShapes Go.WideShapes Go.ChangeAt Go.Deep

theorem c_acl : Tryd.prog.cellsOf 38 = 1 := by kernel_rfl
theorem c_lg : Tryd.prog.cellsOf 40 = 2 := by kernel_rfl
instance : Inhabited Ax := ⟨⟨⟨ByteArray.empty, 0, 0, 0, 0, [], []⟩, none, 0, none, 0⟩⟩
section gen
variable {H : Type} {enc : TypeId × Value → H} {w : World}
theorem cells_lg (m : Nat) (cs : List Value) (x : DataW H × List MemPlace) (hl : cs.length = 2) (h : DataW.trod enc Tryd.prog w 0 (fun _ => true) true m 40 cs = some x) : ∃ (seq : Nat), ∃ A c, ∃ xs : List Ax, cs = [.int .u64 seq, .slice A xs.length c] ∧ seq < 18446744073709551616 ∧ RdL w A xs ∧ xs.length ≤ c ∧ c ≤ 9223372036854775807 ∧ (A = none → c = 0) := by
  obtain ⟨xs, m, _, _, _, hxl, hx⟩ := DataW.trod_struct Tryd.underlying40 h
  have hxl' : xs.length = 2 := hxl
  match cs, hl with
  | [a0, a1], _ =>
    have g0 := hx 0 _ rfl
    have g1 := hx 1 _ rfl
    simp only [List.getElem_toArray, List.getElem_cons_zero, List.getElem_cons_succ, c_u64, c_acl, List.drop_zero, List.drop_succ_cons, List.take_succ_cons, List.take_zero] at g0 g1
    rw [List.getElem?_eq_getElem (by omega)] at g0 g1
    obtain ⟨z0, e0, _, w0⟩ := DataW.trod_int Tryd.underlying22 g0
    obtain ⟨A, c, ys, e1, r1, r2, r3, r4, r5⟩ := cells_elems Ax.cs (fun y => y.in_ w) Ax.cs_len (by decide) Tryd.underlying38 c_acct (fun m cs x hl h => by
      obtain ⟨a, AL, cL, AC, cC, hcs, hi⟩ := cells_ac m cs x hl h
      exact ⟨⟨a, AL, cL, AC, cC⟩, by rw [hcs]; rfl, hi⟩) g1
    simp only [List.cons.injEq, and_true] at e0 e1
    subst e0 e1
    obtain ⟨n0, rfl, h0⟩ := u64_nat w0
    exact ⟨n0, A, c, ys, rfl, h0, ⟨r1, r2⟩, r3, r4, r5⟩
variable {b0 : Nat} {v : Value} {d : DataW H} {p : List MemPlace}
theorem arg_lg (o : Value.okWide Tryd.prog w .any b0 40 v) (h : DataW.Trod enc Tryd.prog w 0 (fun _ => true) true 40 v d p) : ∃ (seq : Nat), ∃ A c, ∃ xs : List Ax, v = .agg #[.int .u64 seq, .slice A xs.length c] ∧ seq < 18446744073709551616 ∧ RdL w A xs ∧ xs.length ≤ c ∧ c ≤ 9223372036854775807 ∧ (A = none → c = 0) := by
  obtain ⟨cs, rfl, hsz⟩ := okWide_struct Tryd.underlying40 o
  obtain ⟨fuel, hf⟩ := h
  obtain ⟨seq, A, c, xs, hcs, r⟩ := cells_lg _ _ _ (by have := hsz.trans c_lg; simpa [Value.cells] using this) hf
  refine ⟨seq, A, c, xs, ?_, r⟩
  congr 1
  apply Array.toList_inj.1
  simpa [Value.cells] using hcs
theorem arg_str (o : Value.okWide Tryd.prog w .any b0 9 v) : ∃ s, v = .string s := okWide_string Tryd.underlying9 o
end gen
end Go.Proofs.YtkbjnlbbfapgdaaDoor

namespace Go.Proofs.YtkbjnlbbfapgdaaDoor
open Go.RowKit

def awR : List Rc := [⟨1, 1, ⟨#[98]⟩, 0, 1, 0⟩, ⟨2, 1, ⟨#[97]⟩, 0, 2, 0⟩]
theorem aw_fold : foldLg 0 [] awR = (2, [⟨⟨#[97]⟩, 2, 0, 0, 0, [], []⟩, ⟨⟨#[98]⟩, 1, 0, 0, 0, [], []⟩], 2) := by kernel_rfl
theorem awR_ok : ∀ r ∈ awR, r.ok ∧ r.ten.size ≤ 1000000 := by
  intro r hr
  simp only [awR, List.mem_cons, List.not_mem_nil, or_false] at hr
  rcases hr with rfl | rfl <;> exact ⟨by unfold Rc.ok; decide, by decide⟩
theorem largeL_ok {w : World} {A : Option Addr} {xs : List Ax} (h : largeL (acs xs) = false) (hi : RdL w A xs) : xs.length ≤ 12 ∧ ∀ x ∈ xs, x.a.ok ∧ x.a.ls.length ≤ 40 ∧ x.a.cl.length ≤ 40 ∧ x.a.ten.size ≤ 100 := by
  unfold largeL at h
  rw [Bool.or_eq_false_iff, decide_eq_false_iff_not, acs_len] at h
  obtain ⟨h1, h2⟩ := h
  refine ⟨by omega, fun x hx => ?_⟩
  rw [List.take_of_length_le (by rw [acs_len]; omega)] at h1
  have := List.any_eq_false.1 h1 x.a (List.mem_map_of_mem hx)
  exact largeB_ok (by simpa using this) (hi.each x hx)

set_option maxHeartbeats 8000000 in
theorem awake16 (w : World) (hL : Laid w) : Calls Tryd.prog 33 #[] w (RetV w (.bool true)) := by
  have HL := Lib.hid hL
  have HFO : Hid (∀ W h, Ext w W → RdE rcs W (some ⟨h, 0, none⟩) awR → Calls Tryd.prog 41 #[(.agg #[.int .u64 0, .slice none 0 0]), .slice (some ⟨h, 0, none⟩) 2 2] W (fun e w' => ∃ A' c', ∃ ys : List Ax, e = .returned (.tuple #[(.agg #[.int .u64 2, .slice A' 2 c']), .int .i64 2]) ∧ ys.length = 2 ∧ acs ys = [⟨⟨#[97]⟩, 2, 0, 0, 0, [], []⟩, ⟨⟨#[98]⟩, 1, 0, 0, 0, [], []⟩] ∧ OwnL w' W.heap.size A' c' ys ∧ Ext W w')) := fun W h e hR => by
    refine (lgfold_calls 0 none 0 [] (some ⟨h, 0, none⟩) 2 awR W ⟨RdE.nil, by simp⟩ (by simp) (by simp) (by simp [acs, Rises]) (by decide) (by simp) hR awR_ok (by decide) (HL.out.ext e)).mono ?_
    rintro e' w' ⟨A', c', ys, h1, h2, h3, h4⟩
    have e0 : foldLg 0 (acs []) awR = (2, [⟨⟨#[97]⟩, 2, 0, 0, 0, [], []⟩, ⟨⟨#[98]⟩, 1, 0, 0, 0, [], []⟩], 2) := aw_fold
    rw [e0] at h1 h2
    have hl : ys.length = 2 := by have := congrArg List.length h2; simpa using this
    exact ⟨A', c', ys, by rw [h1, hl]; rfl, hl, h2, h3, h4⟩
  clear hL
  go_enter Tryd.func33, Tryd.ntmps33
  go_upto_region 2 with (first
    | (go_at_call 41; refine (HFO.out _ w.heap.size ((Ext.refl _).alloc _) (Arr.rd (Arr.new w 28 #[.int .u64 1, .int .i64 1, .string ⟨#[98]⟩, .int .u64 0, .int .u64 1, .int .u64 0, .int .u64 2, .int .i64 1, .string ⟨#[97]⟩, .int .u64 0, .int .u64 2, .int .u64 0]))).mono ?_; rintro e w3 ⟨A3, c3, ys, rfl, hyl, hya, o3, e3⟩; have HYL := Lib.hid hyl; have HYA := Lib.hid hya; have O3 := Lib.hid o3; have E3 := Lib.hid (((Ext.refl w).alloc _).trans e3); clear hyl hya o3 e3)
    | ((with_reducible show wpList _ _ _ ({ dst := some 1, op := Op.alloc 40, type := _, pos := _, after := _, guard := _ } :: _) _ _); refine alA _ rfl 40 rfl _ _ zero_lg ?_; intro g1 w4 hg hs1 k1 e1; have Z4 := Lib.hid k1; have O4 := Lib.hid (O3.out.ext e1); have E4 := Lib.hid (E3.out.trans e1); have F4 := Lib.hid (O3.out.off (g := g1) (.inr (Nat.le_of_eq hg))); have G4 := Lib.hid (show w.heap.size ≤ g1 from by have := E3.out.size; omega); clear hg hs1 k1 e1)
    | ((with_reducible show wpList _ _ _ ({ dst := none, op := Op.store 40 _ _, type := _, pos := _, after := _, guard := _ } :: _) _ _); refine stA _ rfl 40 40 _ _ rfl g1 _ #[.int .u64 2, .slice A3 2 c3] rfl rfl Z4.out size_lg rfl (lg_one 2 _ 2 _) ?_; intro w5 hs5 k5 g5; have O5 := Lib.hid (O4.out.keep g5 F4.out); have E5 := Lib.hid (E4.out.grown g5 (fun q hq => by injection hq with hq; have := G4.out; omega)); have K5 := Lib.hid k5; clear hs5 k5 g5))
  obtain ⟨a0, a1⟩ := lg_cells (seq := 2) (n := 2) K5.out
  have h0 : 0 < ys.length := by have := HYL.out; omega
  obtain ⟨g, cur, hA, _, _, _⟩ := O5.out.row h0
  subst hA
  obtain ⟨ad, hA2, x0, _⟩ := O5.out.rdl.rd.seven h0
  injection hA2 with hA2
  subst hA2
  simp only [add_mk, Nat.zero_mul, Nat.zero_add] at x0
  have hx : ys[0].a.ten = ⟨#[97]⟩ := by
    have h := congrArg (fun l => l[0]?) HYA.out
    simp only [List.getElem?_map, List.getElem?_eq_getElem h0, Option.map_some, List.getElem?_cons_zero, Option.some.injEq] at h
    rw [h]
  rw [hx] at x0
  have q : ((⟨#[97]⟩ : ByteArray).toList == (⟨#[97]⟩ : ByteArray).toList) = true := by rw [str_beq]; exact decide_eq_true rfl
  clear hx
  go_wp2_with fail
  go_ret
  exact ⟨rfl, E5.out⟩
end Go.Proofs.YtkbjnlbbfapgdaaDoor

