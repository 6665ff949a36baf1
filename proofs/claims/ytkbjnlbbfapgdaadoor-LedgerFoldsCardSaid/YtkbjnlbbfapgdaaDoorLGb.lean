/- slices.Insert of one account. ledger.come. ledger.come. ledger.Apply. ledger.Fold. Ledgers that came in by value; lists of records. The laws of chapter 16: whether the program answers at all; which ledgers are looked at. -/
import Derived.Test.YtkbjnlbbfapgdaaDoorLGa
import Derived.Lib.AppendZerosOnto
import Derived.Lib.Overlaps
import Derived.Shelf.Spec.SlicesInsert
import Derived.Deep.RegionWith
import Derived.Deep.CutRange
import Derived.Test.YtkbjnlbbfapgdaaDoorLaw15
set_option maxRecDepth 100000
set_option linter.unusedVariables false
set_option linter.unusedSimpArgs false
namespace Go.Proofs.YtkbjnlbbfapgdaaDoor
open Go.RowKit

theorem insertIdx_eq {α : Type} (xs : List α) (p : Nat) (x : α) (hp : p ≤ xs.length) : xs.insertIdx p x = xs.take p ++ x :: xs.drop p := by
  induction xs generalizing p with
  | nil => obtain rfl : p = 0 := by simpa using hp
           rfl
  | cons y l ih =>
    cases p with
    | zero => rfl
    | succ p => simp [ih p (by simpa using hp)]
/-- what Insert hands back -/
def RetIn (w : World) (base : Nat) (A : Option Addr) (n : Nat) (cs : List Value) (e : Ending) (w' : World) : Prop :=
  ∃ A' c', e = .returned (.slice A' n c') ∧ OwnV w' base 26 7 A' n c' cs ∧ w.grownBy w' (blk A) ∧ (blk A' = blk A ∨ ∃ g, blk A' = some g ∧ w.heap.size ≤ g)

set_option maxHeartbeats 8000000 in
theorem insert_end (base : Nat) (A : Option Addr) (c n : Nat) (cs : List Value) (V : List Value) (vb : Nat) (w : World) (O : OwnV w base 26 7 A n c cs) (hv : Arr w vb 26 V.toArray) (hV : V.length = 7) (h1 : ∀ u ∈ V, u.oneCell' = true) (hl : n ≤ 100000) (hb : base ≤ w.heap.size) :
    Calls Tryd.prog 117 #[.slice A n c, .int .i64 n, .slice (some ⟨vb, 0, none⟩) 1 1] w (RetIn w base A (n + 1) (cs ++ V)) := by
  have HO := Lib.hid O
  have HC : Hid (∀ j u, V[j]? = some u → w.cell? (Addr.add ⟨vb, 0, none⟩ j) = some u) := fun j u hu => by
    rw [add_mk, Nat.zero_add, hv.cell]
    simpa using hu
  have HV := Lib.hid hV
  have H1 := Lib.hid h1
  clear O hv hV h1
  by_cases hcn : c = n
  · have q := Lib.hid hcn
    subst hcn
    go_enter Tryd.func117, Tryd.ntmps117
    go_wp2_with (at_builtin; refine appV _ rfl _ _ 38 rfl 26 (.agg (acV Ac0 none 0 none 0)) 7 96 Tryd.underlying38 info_acct rfl (by decide) base A c c cs rfl ⟨vb, 0, none⟩ 1 1 V rfl ?_ HO.out (by rw [HV.out]) HC.out H1.out (by omega) (by omega) hb; intro A8 c8 w8 h8 g8 b8; have O8 := Lib.hid h8; have G8 := Lib.hid g8; have B8 := Lib.hid b8; clear h8 g8 b8)
    go_ret
    exact ⟨A8, c8, rfl, O8.out, G8.out, B8.out.imp id (fun h => ⟨_, h, Nat.le_refl _⟩)⟩
  · go_enter Tryd.func117, Tryd.ntmps117
    go_wp2_with (at_builtin; refine appV _ rfl _ _ 38 rfl 26 (.agg (acV Ac0 none 0 none 0)) 7 96 Tryd.underlying38 info_acct rfl (by decide) base A n c cs rfl ⟨vb, 0, none⟩ 1 1 V rfl ?_ HO.out (by rw [HV.out]) HC.out H1.out (by omega) (by omega) hb; intro A8 c8 w8 h8 g8 b8; have O8 := Lib.hid h8; have G8 := Lib.hid g8; have B8 := Lib.hid b8; clear h8 g8 b8)
    go_ret
    exact ⟨A8, c8, rfl, O8.out, G8.out, B8.out.imp id (fun h => ⟨_, h, Nat.le_refl _⟩)⟩

theorem overlaps_no (w : World) (vb g off lb cb k1 k2 : Nat) (V : Array Value) (C : Array Value) (hv : Arr w vb 26 V) (hg : Arr w g 26 C) (hne : vb ≠ g) (hC : C.size ≠ 0) :
    (callFunc 138 #[.slice (some ⟨vb, 0, none⟩) k1 k2, .slice (some ⟨g, off, none⟩) lb cb]).run Tryd.prog w = .ok (.value (.bool false)) w := by
  have hsa : w.shape? vb = some (26, V.size) := by unfold Arr at hv; simp [World.shape?, hv]
  have hsb : w.shape? g = some (26, C.size) := by unfold Arr at hg; simp [World.shape?, hg]
  rw [run_callFunc_extern Tryd.func138 (by kernel_rfl) (by kernel_rfl) (by kernel_rfl) (e := Extern.SlicesOverlaps.overlaps #[38, 38] #[4]) (by kernel_rfl),
    Lib.run_overlaps_apart w 38 4 26 Tryd.underlying38 7 Tryd.sizeOf26 ⟨vb, 0, none⟩ ⟨g, off, none⟩ k1 k2 lb cb hne 26 26 V.size C.size hsa hsb hC (hv.frozen 0) (hv.frozen _)]
  rfl

set_option maxHeartbeats 8000000 in
theorem insert_room (base g c n p : Nat) (X Y V : List Value) (vb : Nat) (w : World) (O : OwnV w base 26 7 (some ⟨g, 0, none⟩) n c (X ++ Y)) (hX : X.length = p * 7) (hp : p < n) (hc : n + 1 ≤ c) (hv : Arr w vb 26 V.toArray) (hV : V.length = 7) (h1 : ∀ u ∈ V, u.oneCell' = true) (h2 : ∀ u ∈ Y, u.oneCell' = true) (hne : vb ≠ g) (hl : n ≤ 100000) :
    Calls Tryd.prog 117 #[.slice (some ⟨g, 0, none⟩) n c, .int .i64 p, .slice (some ⟨vb, 0, none⟩) 1 1] w (RetIn w base (some ⟨g, 0, none⟩) (n + 1) (X ++ V ++ Y)) := by
  have hlen := O.len
  have hcm := O.capmax
  obtain ⟨cur, hb, hcs, hR⟩ : ∃ cur : List Value, base ≤ g ∧ Arr w g 26 cur.toArray ∧ cur.length = c * 7 ∧ ∃ R, cur = X ++ Y ++ R := by
    rcases O.2 with ⟨hv, _⟩ | ⟨g', cap, cur, hv, hb, hh, hc1, hc2, hc3, hc4⟩
    · cases hv
    · injection hv with e1 e2 e3
      injection e1 with e1
      injection e1 with e1
      subst e1 e3
      exact ⟨cur.toList, hb, by simpa [Arr] using hh, by simpa using hc3, cur.toList.drop (n * 7), by rw [← hc4, List.take_append_drop]⟩
  obtain ⟨hcl, R, hR⟩ := hR
  have hYl : Y.length = (n - p) * 7 := by rw [List.length_append] at hlen; omega
  have hRl : 7 ≤ R.length := by
    have := congrArg List.length hR
    simp only [List.length_append] at this
    omega
  have HA := Lib.hid hcs
  have HV := Lib.hid hv
  have HSP : Hid ((splice (splice cur ((p + 1) * 7) Y) (p * 7) V).take ((n + 1) * 7) = X ++ V ++ Y) := by
    have := splice_mid cur X V Y R (p * 7) 7 hX hV hR hRl
    rw [hYl] at this
    rw [show (p + 1) * 7 = p * 7 + 7 by omega, show (n + 1) * 7 = p * 7 + 7 + (n - p) * 7 by omega]
    exact this
  have HCY : Hid (∀ j u, Y[j]? = some u → w.cell? ⟨g, p * 7 + j, none⟩ = some u) := fun j u hu => by
    rw [hcs.cell]
    have hj : j < Y.length := (List.getElem?_eq_some_iff.1 hu).1
    rw [List.getElem?_toArray, hR, List.append_assoc, List.getElem?_append_right (by omega), hX, Nat.add_sub_cancel_left, List.getElem?_append_left hj]
    exact hu
  have H1 := Lib.hid h1
  have H2 := Lib.hid h2
  have HNE := Lib.hid hne
  have HL1 : Hid ((splice cur ((p + 1) * 7) Y).length = c * 7) := by show _ = _; rw [length_splice _ _ _ (by rw [hYl, hcl]; omega)]; exact hcl
  have HL2 : Hid ((splice (splice cur ((p + 1) * 7) Y) (p * 7) V).length = c * 7) := by show _ = _; rw [length_splice _ _ _ (by rw [hV, HL1.out]; omega)]; exact HL1.out
  have HYL := Lib.hid hYl
  have HVL := Lib.hid hV
  have HCL := Lib.hid hcl
  have HB := Lib.hid hb
  have hov : ∀ W, Ext w W → ∀ off lb cb, (callFunc 138 #[.slice (some ⟨vb, 0, none⟩) 1 1, .slice (some ⟨g, off, none⟩) lb cb]).run Tryd.prog W = .ok (.value (.bool false)) W := fun W e off lb cb =>
    overlaps_no W vb g off lb cb 1 1 _ _ (hv.ext e) (hcs.ext e) hne (by rw [List.size_toArray, hcl]; omega)
  have hov0 := fun off lb cb => hov w (Ext.refl w) off lb cb
  clear O hlen hcs hR hv hX h1 h2 hb hRl hov
  have z1 : ¬ ((p : Int) = (n : Int)) := by omega
  have u1 : IntKind.i64.wrap ((n : Int) + 1) = (n : Int) + 1 := IntWalk.i64_in _ (by omega)
  have u2 : IntKind.i64.wrap ((p : Int) + 1) = (p : Int) + 1 := IntWalk.i64_in _ (by omega)
  have z3 : ¬ ((c : Int) < (n : Int) + 1) := by omega
  have z4 : (n : Int) + 1 ≤ (c : Int) := by omega
  have t1 : ((n : Int) + 1).toNat = n + 1 := by omega
  have t2 : ((p : Int) + 1).toNat = p + 1 := by omega
  have t3 : (0 : Int) ≤ (n : Int) + 1 := by omega
  have t4 : (0 : Int) ≤ (p : Int) + 1 := by omega
  have t5 : (p : Int) + 1 ≤ (n : Int) + 1 := by omega
  have t6 : (p : Int) ≤ (n : Int) + 1 := by omega
  have t7 : ¬ c = p + 1 := by omega
  have t8 : ¬ c = p := by omega
  have t9 : p ≤ n := by omega
  clear hYl hV hcl
  go_enter Tryd.func117, Tryd.ntmps117
  go_wp2_with (simp only [hov0])
  refine wp_region_still_tail 8 (by kernel_rfl) (by kernel_rfl) ?_
  simp only [List.take_succ_cons, List.take_zero, List.drop_succ_cons, List.drop_zero]
  change wpStill _ _ w.drew (fun a' => wpList _ _ _ _ a' w.drew) _ _
  have R3 := Lib.hid HA.out.drew
  have V3 := Lib.hid HV.out.drew
  have D3 : Hid (w.grownBy w.drew (some g)) := ⟨rfl, rfl, rfl, Nat.le_refl _, fun _ _ _ => rfl⟩
  have C3 : Hid (∀ j u, Y[j]? = some u → w.drew.cell? (Addr.add ⟨g, p * 7, none⟩ j) = some u) := fun j u hj => by rw [add_mk]; exact HCY.out j u hj
  clear hov0 HA HV HCY
  generalize w.drew = w3 at *
  repeat still_step
  refine wpStill_nil ?_
  go_wp2_with (first
    | ((with_reducible show wpList _ _ _ ({ dst := some 77, op := Op.call { callee := Callee.builtin Builtin.copy, args := _, argTypes := _ }, type := _, pos := _, after := _, guard := _ } :: _) _ _); refine cpV _ rfl (.tmp 73) (.tmp 76) 38 38 rfl 26 7 Tryd.underlying38 size_acct _ _ _ _ _ _ rfl rfl g ((p + 1) * 7) cur 26 R3.out Y (n - p) (by show min _ _ = _; omega) HYL.out (fun _ => ⟨by first | rfl | (congr 2; omega), _, rfl, C3.out⟩) (by have := HYL.out; have := HCL.out; omega) H2.out ?_; intro w4 k4 g4; have R4 := Lib.hid k4; have V4 := Lib.hid (V3.out.grown g4 (fun e => HNE.out (by injection e))); have D4 := Lib.hid (D3.out.trans g4); clear k4 g4)
    | ((with_reducible show wpList _ _ _ ({ dst := some 82, op := Op.call { callee := Callee.builtin Builtin.copy, args := _, argTypes := _ }, type := _, pos := _, after := _, guard := _ } :: _) _ _); refine cpV _ rfl (.tmp 80) (.tmp 81) 38 38 rfl 26 7 Tryd.underlying38 size_acct _ _ _ _ _ _ rfl rfl g (p * 7) _ 26 R4.out V 1 (by show min _ _ = _; omega) (by rw [HVL.out]) (fun _ => ⟨rfl, _, rfl, fun j u hj => by rw [add_mk, Nat.zero_add, V4.out.cell]; simpa using hj⟩) (by have := HVL.out; have := HL1.out; omega) H1.out ?_; intro w5 k5 g5; have R5 := Lib.hid k5; have D5 := Lib.hid (D4.out.trans g5); clear k5 g5))
  go_ret
  refine ⟨some ⟨g, 0, none⟩, c, rfl, ⟨?_, .inr ⟨g, c, _, rfl, HB.out, R5.out, by omega, by unfold maxLen; omega, by simpa using HL2.out, ?_⟩⟩, D5.out, .inl rfl⟩
  · have h1 := congrArg List.length HSP.out
    rw [List.length_take, HL2.out] at h1
    simp only [List.append_assoc] at h1 ⊢
    omega
  · have h1 := HSP.out
    simp only [List.append_assoc] at h1 ⊢
    exact h1

theorem Ext.toGrown {w w1 : World} {row : Option Nat} (h : Ext w w1) : w.grownBy w1 row := ⟨Below.os h, Below.tape h, Below.output h, Below.size h, fun i hi _ => Below.block h i hi⟩
set_option maxHeartbeats 8000000 in
theorem insert_grow (base g c n p : Nat) (X Y V : List Value) (vb : Nat) (w : World) (O : OwnV w base 26 7 (some ⟨g, 0, none⟩) n c (X ++ Y)) (hX : X.length = p * 7) (hp : p < n) (hc : c < n + 1) (hv : Arr w vb 26 V.toArray) (hV : V.length = 7) (h1 : ∀ u ∈ V, u.oneCell' = true) (h2 : ∀ u ∈ Y, u.oneCell' = true) (hl : n ≤ 100000) (hbase : base ≤ w.heap.size) :
    Calls Tryd.prog 117 #[.slice (some ⟨g, 0, none⟩) n c, .int .i64 p, .slice (some ⟨vb, 0, none⟩) 1 1] w (RetIn w base (some ⟨g, 0, none⟩) (n + 1) (X ++ V ++ Y)) := by
  have hlen := O.len
  have hnc := O.cap
  have hrd := O.rd
  have hYl : Y.length = (n - p) * 7 := by rw [List.length_append] at hlen; omega
  have HCX : ∀ (W : World), Ext w W → ∀ j u, (X ++ Y)[j]? = some u → W.cell? (Addr.add ⟨g, 0, none⟩ j) = some u := fun W e j u hu => by
    obtain ⟨ad, h, hcc⟩ := hrd j u hu
    injection h with h
    subst h
    exact e.cell hcc
  obtain ⟨inf, hi0, hz0, hzs, hzb⟩ := info_parts info_acct
  have hold : (Builtin.firstCells inf.size p (.slice (some ⟨g, 0, none⟩) p c)).run Tryd.prog w.drew = .ok X.toArray w.drew := by
    rw [hzs]
    exact run_firstCells_some w.drew 7 p ⟨g, 0, none⟩ p c X hX (fun j v hj => HCX _ (Ext.refl w).drew j v (by rw [List.getElem?_append_left (List.getElem?_eq_some_iff.1 hj).1]; exact hj))
  obtain ⟨G, hG⟩ : ∃ G, G = grownCap w (n + 1) c 26 := ⟨_, rfl⟩
  obtain ⟨Z1, hZ1⟩ : ∃ Z1 : List Value, Z1 = (Builtin.zeroCells (Value.agg (acV Ac0 none 0 none 0)).cells (n + 1 - p)).toList := ⟨_, rfl⟩
  obtain ⟨Z2, hZ2⟩ : ∃ Z2 : List Value, Z2 = (Builtin.zeroCells (Value.agg (acV Ac0 none 0 none 0)).cells (G - (n + 1))).toList := ⟨_, rfl⟩
  have lZ1 : Z1.length = (n + 1 - p) * 7 := by rw [hZ1, Array.length_toList, size_zeroCells]; rfl
  have lZ2 : Z2.length = (G - (n + 1)) * 7 := by rw [hZ2, Array.length_toList, size_zeroCells]; rfl
  have hGn : n + 1 ≤ G := by rw [hG]; exact grownCap_ge w _ _ _
  have hGm : G ≤ 9223372036854775807 := by
    have := grownCap_le_maxLen w (n + 1) c 26 (by unfold maxLen; omega)
    rw [← hG] at this
    unfold maxLen at this
    omega
  have hrz : ∀ ty, (Builtin.append_ #[38, 3] ty #[.slice (some ⟨g, 0, none⟩) p c, .int .i64 ((n : Int) + 1 - (p : Int))]).run Tryd.prog w =
      .ok (.slice (some ⟨w.heap.size, 0, none⟩) (n + 1) G) (w.drew.alloc (.cells (X ++ Z1 ++ Z2).toArray 26)) := fun ty => by
    have h := Lib.run_append_grow_zeros w 38 3 ty 26 inf _ .i64 .i64 Tryd.underlying38 Tryd.underlying3 hi0 hz0 (some ⟨g, 0, none⟩) p c X hold (n + 1 - p) (by omega) (by omega) (by omega) (by omega) (by rw [hzb]; omega) (by rw [hzb, show p + (n + 1 - p) = n + 1 by omega]; exact growslice_fits hc (by omega))
    rw [show p + (n + 1 - p) = n + 1 by omega, ← hG] at h
    rw [show (n : Int) + 1 - (p : Int) = ((n + 1 - p : Nat) : Int) by omega, h, hZ1, hZ2]
    congr 3
    apply Array.toList_inj.1
    simp
  obtain ⟨W1, hW1⟩ : ∃ W1, W1 = w.drew.alloc (.cells (X ++ Z1 ++ Z2).toArray 26) := ⟨_, rfl⟩
  have HR1 : Hid (Arr W1 w.heap.size 26 (X ++ Z1 ++ Z2).toArray) := by
    show Arr _ _ _ _
    rw [hW1]; exact Arr.new w.drew _ _
  have HE1 : Hid (Ext w W1) := by
    show Ext _ _
    rw [hW1]; exact ((Ext.refl w).drew).alloc _
  rw [← hW1] at hrz
  have HSP : Hid ((splice (splice (X ++ Z1 ++ Z2) (p * 7) V) ((p + 1) * 7) Y).take ((n + 1) * 7) = X ++ V ++ Y) := by
    have := splice_grow X V Y Z1 Z2 (p * 7) 7 hX hV (by rw [lZ1, hV, hYl]; omega)
    rw [hYl] at this
    show _ = _
    rw [show (p + 1) * 7 = p * 7 + 7 by omega, show (n + 1) * 7 = p * 7 + 7 + (n - p) * 7 by omega]
    exact this
  have HCL : Hid ((X ++ Z1 ++ Z2).length = G * 7) := by
    show _ = _
    rw [List.length_append, List.length_append, hX, lZ1, lZ2]; omega
  have HYL := Lib.hid hYl
  have HVL := Lib.hid hV
  have HL1 : Hid ((splice (X ++ Z1 ++ Z2) (p * 7) V).length = G * 7) := by show _ = _; rw [length_splice _ _ _ (by rw [hV, HCL.out]; omega)]; exact HCL.out
  have HL2 : Hid ((splice (splice (X ++ Z1 ++ Z2) (p * 7) V) ((p + 1) * 7) Y).length = G * 7) := by show _ = _; rw [length_splice _ _ _ (by rw [HYL.out, HL1.out]; omega)]; exact HL1.out
  have HCY : Hid (∀ (W : World), Ext w W → ∀ j u, Y[j]? = some u → W.cell? (Addr.add ⟨g, p * 7, none⟩ j) = some u) := fun W e j u hu => by
    have := HCX W e (p * 7 + j) u (by rw [List.getElem?_append_right (by omega), hX, Nat.add_sub_cancel_left]; exact hu)
    rw [add_mk, Nat.zero_add] at this
    rw [add_mk]; exact this
  have HVE : Hid (∀ (W : World), Ext w W → Arr W vb 26 V.toArray) := fun W e => hv.ext e
  have H1 := Lib.hid h1
  have H2 := Lib.hid h2
  generalize X ++ Z1 ++ Z2 = cur at *
  obtain ⟨gn, hgn⟩ : ∃ gn, gn = w.heap.size := ⟨_, rfl⟩
  have HGN := Lib.hid hgn
  rw [← hgn] at HR1 hrz
  have HLE : Hid (w.heap.size ≤ gn) := Nat.le_of_eq hgn.symm
  clear O hlen hrd HCX hi0 hz0 hzs hzb hold hG hZ1 hZ2 lZ1 lZ2 hW1 h1 h2 hv hX hYl hV hgn
  have z1 : ¬ ((p : Int) = (n : Int)) := by omega
  have u1 : IntKind.i64.wrap ((n : Int) + 1) = (n : Int) + 1 := IntWalk.i64_in _ (by omega)
  have u2 : IntKind.i64.wrap ((p : Int) + 1) = (p : Int) + 1 := IntWalk.i64_in _ (by omega)
  have u3 : IntKind.i64.wrap ((n : Int) + 1 - (p : Int)) = (n : Int) + 1 - (p : Int) := IntWalk.i64_in _ (by omega)
  have z3 : ((c : Int) < (n : Int) + 1) := by omega
  have t2 : ((p : Int) + 1).toNat = p + 1 := by omega
  have t4 : (0 : Int) ≤ (p : Int) + 1 := by omega
  have t5 : (p : Int) + 1 ≤ (n : Int) + 1 := by omega
  have t6 : (p : Int) ≤ (n : Int) + 1 := by omega
  have t7 : ¬ G = p + 1 := by omega
  have t8 : ¬ G = p := by omega
  have t9 : p ≤ n := by omega
  have t10 : ¬ c = p := by omega
  have t11 : p ≤ c := by omega
  have t12 : p ≤ n + 1 := by omega
  have HBS := Lib.hid hbase
  clear hbase
  go_enter Tryd.func117, Tryd.ntmps117
  go_wp2_with (first
    | ((with_reducible show wpList _ _ _ ({ dst := some 40, op := Op.call { callee := Callee.builtin Builtin.append, args := _, argTypes := _ }, type := _, pos := _, after := _, guard := _ } :: _) _ _); refine Lib.wpList_append_run _ rfl _ _ _ _ rfl _ _ rfl rfl _ _ (hrz _) ?_; clear hrz z3)
    | ((with_reducible show wpList _ _ _ ({ dst := some 45, op := Op.call { callee := Callee.builtin Builtin.copy, args := _, argTypes := _ }, type := _, pos := _, after := _, guard := _ } :: _) _ _); refine cpV _ rfl (.tmp 43) (.tmp 44) 38 38 rfl 26 7 Tryd.underlying38 size_acct _ _ _ _ _ _ rfl rfl gn (p * 7) cur 26 HR1.out V 1 (by show min _ _ = _; omega) (by rw [HVL.out]) (fun _ => ⟨rfl, _, rfl, fun j u hj => by rw [add_mk, Nat.zero_add, (HVE.out _ HE1.out).cell]; simpa using hj⟩) (by have := HVL.out; have := HCL.out; omega) H1.out ?_; intro w4 k4 g4; have R4 := Lib.hid k4; have E4 := Lib.hid (HE1.out.grown g4 (fun q hq => by injection hq with hq; have := HLE.out; omega)); clear k4 g4))
  refine wp_region_still_tail 8 (by kernel_rfl) (by kernel_rfl) ?_
  simp only [List.take_succ_cons, List.take_zero, List.drop_succ_cons, List.drop_zero]
  change wpStill _ _ w4.drew (fun a' => wpList _ _ _ _ a' w4.drew) _ _
  have R5 := Lib.hid R4.out.drew
  have E5 := Lib.hid E4.out.drew
  clear R4 E4
  generalize w4.drew = w5 at *
  repeat still_step
  refine wpStill_nil ?_
  go_wp2_with (first
    | ((with_reducible show wpList _ _ _ ({ dst := some 54, op := Op.call { callee := Callee.builtin Builtin.copy, args := _, argTypes := _ }, type := _, pos := _, after := _, guard := _ } :: _) _ _); refine cpV _ rfl (.tmp 50) (.tmp 53) 38 38 rfl 26 7 Tryd.underlying38 size_acct _ _ _ _ _ _ rfl rfl gn ((p + 1) * 7) _ 26 R5.out Y (n - p) (by show min _ _ = _; omega) HYL.out (fun _ => ⟨by first | rfl | (congr 2; omega), _, rfl, HCY.out _ E5.out⟩) (by have := HYL.out; have := HL1.out; omega) H2.out ?_; intro w6 k6 g6; have R6 := Lib.hid k6; have E6 := Lib.hid (E5.out.grown g6 (fun q hq => by injection hq with hq; have := HLE.out; omega)); clear k6 g6))
  go_ret
  refine ⟨some ⟨gn, 0, none⟩, G, rfl, ⟨?_, .inr ⟨gn, G, _, rfl, Nat.le_trans HBS.out HLE.out, R6.out, hGn, by unfold maxLen; omega, by simpa using HL2.out, ?_⟩⟩, E6.out.toGrown, .inr ⟨gn, rfl, HLE.out⟩⟩
  · have h1 := congrArg List.length HSP.out
    rw [List.length_take, HL2.out] at h1
    simp only [List.append_assoc] at h1 ⊢
    omega
  · have h1 := HSP.out
    simp only [List.append_assoc] at h1 ⊢
    exact h1
end Go.Proofs.YtkbjnlbbfapgdaaDoor

namespace Go.Proofs.YtkbjnlbbfapgdaaDoor
open Go.RowKit

theorem appA_ok2 {a : Ac} {r : Rc} (ha : a.ok) (hr : r.ok) (h : chkA a r = 0) (h1 : a.ls.length < 100000) (h2 : a.cl.length < 100000) : (appA a r).ok := by
  obtain ⟨k1, k2, k3, k4, k5, k6, k7, _, _⟩ := ha
  obtain ⟨r1, r2, r3, r4, _, _⟩ := hr
  have hu : addN a.used r.n < 18446744073709551616 := by rw [addN_eq]; omega
  have hdue : ∀ n x, dueV n x < 18446744073709551616 := fun n x => by unfold dueV dueN; split <;> omega
  rcases chk_known h with hk | hk | hk | hk | hk
  · have e : appA a r = { a with cap := r.n } := by unfold appA; simp only [hk]; rfl
    rw [e]; exact ⟨k1, r3, k3, k4, k5, k6, k7, by show a.ls.length ≤ _; omega, by show a.cl.length ≤ _; omega⟩
  · have e : appA a r = { a with bits := r.bits } := by unfold appA; simp only [hk]; rfl
    rw [e]; exact ⟨k1, k2, k3, r4, k5, k6, k7, by show a.ls.length ≤ _; omega, by show a.cl.length ≤ _; omega⟩
  · have e : appA a r = { a with ls := a.ls ++ [⟨r.lease, r.n⟩] } := by unfold appA; simp only [hk]; rfl
    rw [e]
    refine ⟨k1, k2, k3, k4, k5, fun l hl => ?_, k7, by simp; omega, by show a.cl.length ≤ _; omega⟩
    rcases List.mem_append.1 hl with hl | hl
    · exact k6 l hl
    · obtain rfl : l = ⟨r.lease, r.n⟩ := by simpa using hl
      exact ⟨r2, r3⟩
  · have e : appA a r = { a with ls := a.ls.eraseIdx (idx a.ls (fun l => decide (l.id = r.lease))), used := addN a.used r.n } := by unfold appA; simp only [hk]; rfl
    rw [e]
    exact ⟨k1, k2, hu, k4, k5, fun l hl => k6 l (List.mem_of_mem_eraseIdx hl), k7, by have := List.length_eraseIdx_le a.ls (idx a.ls (fun l => decide (l.id = r.lease))); show (a.ls.eraseIdx _).length ≤ _; omega, by show a.cl.length ≤ _; omega⟩
  · have hp := (chk_close (a := a) (lease := r.lease) (n := r.n) (by have := (chk_zero h).2.2; rw [hk] at this; exact this)).2
    have e : appA a r = { a with cl := a.cl ++ [stmtOf a], per := a.per + 1, used := 0 } := by unfold appA; simp only [hk]; rfl
    rw [e]
    refine ⟨k1, k2, by show 0 < _; omega, k4, by show a.per + 1 < _; omega, k6, fun s hs => ?_, by show a.ls.length ≤ _; omega, by simp; omega⟩
    rcases List.mem_append.1 hs with hs | hs
    · exact k7 s hs
    · obtain rfl : s = stmtOf a := by simpa using hs
      exact ⟨k5, k3, k2, k4, hdue _ _, by show a.ten.size ≤ _; omega⟩
theorem appA_lens (a : Ac) (r : Rc) : (appA a r).ls.length ≤ a.ls.length + 1 ∧ (appA a r).cl.length ≤ a.cl.length + 1 := by
  unfold appA
  split
  · exact ⟨Nat.le_succ _, Nat.le_succ _⟩
  · split
    · exact ⟨Nat.le_succ _, Nat.le_succ _⟩
    · split
      · exact ⟨by simp, Nat.le_succ _⟩
      · split
        · exact ⟨by have := List.length_eraseIdx_le a.ls (idx a.ls (fun l => decide (l.id = r.lease))); show (a.ls.eraseIdx _).length ≤ _; omega, Nat.le_succ _⟩
        · exact ⟨Nat.le_succ _, by simp⟩

/-- a ledger of the call's own, changed in place or laid anew -/
def RetC (w : World) (base : Nat) (A : Option Addr) (seq : Nat) (l : List Ac) (e : Ending) (w' : World) : Prop :=
  ∃ A8 c8, ∃ zs : List Ax, e = .returned ((.agg #[.int .u64 seq, .slice A8 zs.length c8])) ∧ acs zs = l ∧ OwnL w' base A8 c8 zs ∧ w.grownBy w' (blk A) ∧ (blk A8 = blk A ∨ ∃ g, blk A8 = some g ∧ w.heap.size ≤ g)

/-- an account put in another's stead -/
theorem OwnL.put {w w8 : World} {base g c p : Nat} {xs : List Ax} {x : Ax} (O : OwnL w base (some ⟨g, 0, none⟩) c xs) (hp : p < xs.length) (hx : x.in_ w) (hok : x.a.ok) (hap : x.ap (some ⟨g, 0, none⟩)) (hhi : x.hi base)
    (cur : List Value) (hcur : Arr w g 26 cur.toArray) (h8 : Arr w8 g 26 (splice cur (p * 7) x.cs).toArray) (g8 : w.grownBy w8 (some g)) : OwnL w8 base (some ⟨g, 0, none⟩) c (xs.set p x) := by
  have hgb : blk (some ⟨g, 0, none⟩ : Option Addr) = some g := rfl
  refine ⟨?_, fun y hy => ?_⟩
  · rw [List.length_set]
    have hlen := O.1.len
    rcases O.1.2 with ⟨hv, _⟩ | ⟨g', cap, cu, hv, hb, hh, hc1, hc2, hc3, hc4⟩
    · cases hv
    · injection hv with e1 e2 e3
      injection e1 with e1
      injection e1 with e1
      subst e1 e3
      have hcu : cu = cur.toArray := by
        unfold Arr at hcur
        rw [hcur] at hh
        injection hh with hh
        injection hh with hh
        exact hh.symm
      subst hcu
      have hcl : cur.length = c * 7 := by simpa using hc3
      have hm : p * 7 + 7 ≤ xs.length * 7 := by omega
      have hlx : (xs.set p x).flatMap Ax.cs = splice (xs.flatMap Ax.cs) (p * 7) x.cs := by
        rw [List.set_eq_take_append_cons_drop, if_pos hp]
        unfold splice
        rw [List.flatMap_append, List.flatMap_cons, flatMap_take Ax.cs_len, flatMap_drop Ax.cs_len, Ax.cs_len, show (p + 1) * 7 = p * 7 + 7 by omega]
      refine ⟨by rw [hlx, length_splice _ _ _ (by rw [Ax.cs_len, hlen]; exact hm)]; exact hlen, .inr ⟨g, c, _, rfl, hb, h8, hc1, hc2, by rw [List.size_toArray, length_splice _ _ _ (by rw [Ax.cs_len, hcl]; omega)]; exact hcl, ?_⟩⟩
      rw [hlx]
      have hc4' : cur.take (xs.length * 7) = xs.flatMap Ax.cs := hc4
      rw [← hc4']
      simp only [splice, Ax.cs_len]
      rw [List.take_take, Nat.min_eq_left (by omega), List.drop_take, ← List.append_assoc, ← List.append_assoc]
      rw [List.take_append, List.take_of_length_le (by simp [Ax.cs_len]; omega)]
      congr 1
      congr 1
      simp [Ax.cs_len]
      omega
  · have hy' : y.in_ w ∧ y.a.ok ∧ y.ap (some ⟨g, 0, none⟩) ∧ y.hi base := by
      rcases List.mem_or_eq_of_mem_set hy with hy | rfl
      · exact O.2 y hy
      · exact ⟨hx, hok, hap, hhi⟩
    exact ⟨Ax.keep hy'.1 hy'.2.2.1 g8, hy'.2⟩
/-- an account laid between others -/
theorem OwnL.ins {w w8 : World} {base p : Nat} {A A8 : Option Addr} {c c8 : Nat} {xs : List Ax} {x : Ax} (O : OwnL w base A c xs) (hx : x.in_ w) (hok : x.a.ok) (hap : ∀ A', x.ap A') (hhi : x.hi base)
    (h8 : OwnV w8 base 26 7 A8 (xs.length + 1) c8 ((xs.insertIdx p x).flatMap Ax.cs)) (hp : p ≤ xs.length) (g8 : w.grownBy w8 (blk A)) (hb : blk A8 = blk A ∨ ∃ g, blk A8 = some g ∧ w.heap.size ≤ g) : OwnL w8 base A8 c8 (xs.insertIdx p x) := by
  refine ⟨by rw [List.length_insertIdx, if_pos hp]; exact h8, fun y hy => ?_⟩
  rcases (List.mem_insertIdx hp).1 hy with rfl | hy
  · refine ⟨?_, hok, hap _, hhi⟩
    exact Ax.keep hx (hap A) g8
  · obtain ⟨h1, h2, h3, h4⟩ := O.2 y hy
    refine ⟨Ax.keep h1 h3 g8, h2, ?_, h4⟩
    rcases hb with hb | ⟨g, hb, hg⟩
    · exact ⟨fun hn k hk => by rw [hb]; exact h3.1 hn k hk, fun hn k hk => by rw [hb]; exact h3.2 hn k hk⟩
    · refine ⟨fun hn k hk he => ?_, fun hn k hk he => ?_⟩
      · have := RdE.lt (k := 2) (fun _ => rfl) (by decide) h1.rd.1 hn k hk
        rw [hb] at he; injection he; omega
      · have := RdE.lt (k := 6) (fun _ => rfl) (by decide) h1.rd.2 hn k hk
        rw [hb] at he; injection he; omega
/-- slices.Insert of one account, whichever road -/
theorem insert_calls (base : Nat) (A : Option Addr) (c p : Nat) (xs : List Ax) (x : Ax) (vb : Nat) (w : World) (O : OwnV w base 26 7 A xs.length c (xs.flatMap Ax.cs)) (hv : Arr w vb 26 x.cs.toArray) (hne : blk A ≠ some vb) (hp : p ≤ xs.length) (hl : xs.length ≤ 100000) (hb : base ≤ w.heap.size) :
    Calls Tryd.prog 117 #[.slice A xs.length c, .int .i64 p, .slice (some ⟨vb, 0, none⟩) 1 1] w (RetIn w base A (xs.length + 1) ((xs.insertIdx p x).flatMap Ax.cs)) := by
  have hone : ∀ (ys : List Ax), ∀ u ∈ ys.flatMap Ax.cs, u.oneCell' = true := fun ys u hu => by
    obtain ⟨y, _, hy⟩ := List.mem_flatMap.1 hu
    exact ax_one y u hy
  have hsplit : xs.flatMap Ax.cs = (xs.take p).flatMap Ax.cs ++ (xs.drop p).flatMap Ax.cs := by rw [← List.flatMap_append, List.take_append_drop]
  have hins : (xs.insertIdx p x).flatMap Ax.cs = (xs.take p).flatMap Ax.cs ++ x.cs ++ (xs.drop p).flatMap Ax.cs := by
    rw [insertIdx_eq _ _ _ hp, List.flatMap_append, List.flatMap_cons, List.append_assoc]
  rw [hins]
  rcases Nat.lt_or_ge p xs.length with hlt | hge
  · have hX : ((xs.take p).flatMap Ax.cs).length = p * 7 := by rw [flat_length Ax.cs_len, List.length_take]; omega
    rw [hsplit] at O
    cases A with
    | none =>
      exfalso
      rcases O.2 with ⟨_, h0⟩ | ⟨_, _, _, h, _⟩
      · omega
      · cases h
    | some ad =>
      obtain ⟨g, hg⟩ : ∃ g, ad = ⟨g, 0, none⟩ := by
        rcases O.2 with ⟨h, _⟩ | ⟨g, _, _, h, _⟩
        · cases h
        · injection h with h; injection h with h; exact ⟨g, h⟩
      subst hg
      rcases Nat.lt_or_ge c (xs.length + 1) with hc | hc
      · exact insert_grow base g c xs.length p _ _ x.cs vb w O hX hlt hc hv rfl (ax_one x) (hone _) hl hb
      · exact insert_room base g c xs.length p _ _ x.cs vb w O hX hlt hc hv rfl (ax_one x) (hone _) (fun e => hne (by rw [e]; rfl)) hl
  · obtain rfl : p = xs.length := by omega
    have := insert_end base A c xs.length (xs.flatMap Ax.cs) x.cs vb w O hv rfl (ax_one x) hl hb
    simpa using this
end Go.Proofs.YtkbjnlbbfapgdaaDoor

namespace Go.Proofs.YtkbjnlbbfapgdaaDoor
open Go.RowKit

theorem set_ins {α : Type} (l : List α) (p : Nat) (x y : α) (hp : p ≤ l.length) : (l.insertIdx p x).set p y = l.insertIdx p y := by
  rw [insertIdx_eq _ _ _ hp, insertIdx_eq _ _ _ hp, List.set_append_right _ _ (by rw [List.length_take]; omega)]
  rw [List.length_take, Nat.min_eq_left hp, Nat.sub_self]
  rfl
theorem acs_ins (xs : List Ax) (p : Nat) (x : Ax) (hp : p ≤ xs.length) : acs (xs.insertIdx p x) = (acs xs).insertIdx p x.a := by
  rw [insertIdx_eq _ _ _ hp, insertIdx_eq _ _ _ (by simpa using hp)]
  simp [acs]
theorem get_ins {xs : List Ax} {p : Nat} {x : Ax} (hp : p ≤ xs.length) (h : p < (xs.insertIdx p x).length) : (xs.insertIdx p x)[p] = x := by
  simp [List.getElem_insertIdx_self]
theorem axNone_ap (s : ByteArray) (A : Option Addr) : (axNone s).ap A := ⟨fun h => absurd rfl h, fun h => absurd rfl h⟩
theorem axNone_hi (s : ByteArray) (b : Nat) : (axNone s).hi b := ⟨fun h => absurd rfl h, fun h => absurd rfl h⟩
theorem grown_mix {w w1 w2 : World} {row : Option Nat} {g : Nat} (h : w.grownBy w1 row) (k : w1.grownBy w2 (some g)) (hg : row = some g ∨ w.heap.size ≤ g) : w.grownBy w2 row :=
  ⟨k.os.trans h.os, k.tape.trans h.tape, k.output.trans h.output, Nat.le_trans h.size k.size, fun i hi hne => (k.block i (Nat.lt_of_lt_of_le hi h.size) (by
    intro e
    injection e with e
    rcases hg with hg | hg
    · exact hne (by rw [hg, e])
    · omega)).trans (h.block i hi hne)⟩
theorem OffL.set {A : Option Addr} {xs : List Ax} {g b p : Nat} {x : Ax} (h : OffL A xs g) (hx : x.hi b) (hg : g < b) : OffL A (xs.set p x) g := by
  refine ⟨h.1, fun y hy => ?_⟩
  rcases List.mem_or_eq_of_mem_set hy with hy | rfl
  · exact h.2 y hy
  · exact ⟨fun hn k hk => by have := hx.1 hn k hk; omega, fun hn k hk => by have := hx.2 hn k hk; omega⟩
theorem OffL.ins {A A7 : Option Addr} {xs : List Ax} {g p : Nat} {s : ByteArray} (h : OffL A xs g) (hp : p ≤ xs.length) (hA : Off A7 g) : OffL A7 (xs.insertIdx p (axNone s)) g := by
  refine ⟨hA, fun y hy => ?_⟩
  rcases (List.mem_insertIdx hp).1 hy with rfl | hy
  · exact ⟨fun h => absurd rfl h, fun h => absurd rfl h⟩
  · exact h.2 y hy
theorem Laid.off {w w1 : World} {row : Option Nat} (h : Laid w) (hg : w.grownBy w1 row) (hr : row ≠ some 1) : Laid w1 := fun i hi => by
  have h1 := h i hi
  have hlt : 1 < w.heap.size := by
    have h0 := h 0 (by decide)
    simp only [World.cell?] at h0
    cases hh : w.heap[1]? with
    | none => simp [hh] at h0
    | some b => exact (Array.getElem?_eq_some_iff.1 hh).1
  simp only [World.cell?] at h1 ⊢
  rw [hg.block 1 hlt (fun e => hr e.symm)]
  exact h1
theorem OwnL.row {w : World} {base c p : Nat} {A : Option Addr} {xs : List Ax} (O : OwnL w base A c xs) (hp : p < xs.length) : ∃ g, ∃ cur : List Value, A = some ⟨g, 0, none⟩ ∧ Arr w g 26 cur.toArray ∧ cur.length = c * 7 ∧ xs.length ≤ c := by
  rcases O.1.2 with ⟨_, h0⟩ | ⟨g, cap, cur, hv, hb, hh, hc1, hc2, hc3, hc4⟩
  · omega
  · injection hv with e1 e2 e3
    subst e1 e3
    exact ⟨g, cur.toList, rfl, by simpa [Arr] using hh, by simpa using hc3, hc1⟩

theorem arr_set1 {w : World} {g : Nat} {t : TypeId} {cs ds : Array Value} (H : Arr w g t cs) (i : Nat) (v : Value) (h : cs.setIfInBounds i v = ds) : Arr (w.setCell ⟨g, i, none⟩ v) g t ds := h ▸ H.set i v
theorem arr_store7 {w : World} {g : Nat} {t : TypeId} {u0 u1 u2 u3 u4 u5 u6 : Value} (H : Arr w g t #[u0, u1, u2, u3, u4, u5, u6]) (v0 v1 v2 v3 v4 v5 v6 : Value) :
    Arr (((((((w.setCell ⟨g, 0, none⟩ v0).setCell ⟨g, 1, none⟩ v1).setCell ⟨g, 2, none⟩ v2).setCell ⟨g, 3, none⟩ v3).setCell ⟨g, 4, none⟩ v4).setCell ⟨g, 5, none⟩ v5).setCell ⟨g, 6, none⟩ v6) g t #[v0, v1, v2, v3, v4, v5, v6] := by
  have h0 := arr_set1 (ds := #[v0, u1, u2, u3, u4, u5, u6]) H 0 v0 rfl
  have h1 := arr_set1 (ds := #[v0, v1, u2, u3, u4, u5, u6]) h0 1 v1 rfl
  have h2 := arr_set1 (ds := #[v0, v1, v2, u3, u4, u5, u6]) h1 2 v2 rfl
  have h3 := arr_set1 (ds := #[v0, v1, v2, v3, u4, u5, u6]) h2 3 v3 rfl
  have h4 := arr_set1 (ds := #[v0, v1, v2, v3, v4, u5, u6]) h3 4 v4 rfl
  have h5 := arr_set1 (ds := #[v0, v1, v2, v3, v4, v5, u6]) h4 5 v5 rfl
  exact arr_set1 (ds := #[v0, v1, v2, v3, v4, v5, v6]) h5 6 v6 rfl
theorem grown_store7 (w : World) (g : Nat) (v0 v1 v2 v3 v4 v5 v6 : Value) :
    w.grownBy (((((((w.setCell ⟨g, 0, none⟩ v0).setCell ⟨g, 1, none⟩ v1).setCell ⟨g, 2, none⟩ v2).setCell ⟨g, 3, none⟩ v3).setCell ⟨g, 4, none⟩ v4).setCell ⟨g, 5, none⟩ v5).setCell ⟨g, 6, none⟩ v6) (some g) := by
  have h0 := grown_setCell w g 0 v0
  have h1 := h0.trans (grown_setCell _ g 1 v1)
  have h2 := h1.trans (grown_setCell _ g 2 v2)
  have h3 := h2.trans (grown_setCell _ g 3 v3)
  have h4 := h3.trans (grown_setCell _ g 4 v4)
  have h5 := h4.trans (grown_setCell _ g 5 v5)
  exact h5.trans (grown_setCell _ g 6 v6)
/-- what the region leaves -/
def CutB (wc : World) (b : Ac) (pv xv : Value) (wx : World) : Prop := ∃ g7 L8 l8 C8 c8 bb, pv = .pointer (some ⟨g7, 0, none⟩) ∧ xv = .int .i64 0 ∧ Arr wx g7 26 (acV b L8 l8 C8 c8) ∧ OwnA wx bb b L8 l8 C8 c8 ∧ wc.heap.size ≤ bb ∧ Ext wc wx
theorem cut_a {wc w8 : World} {b : Ac} {L8 C8 : Option Addr} {l8 c8 : Nat} (T : Ext wc w8) (O : ∃ bb, OwnA w8 bb b L8 l8 C8 c8 ∧ wc.heap.size ≤ bb) :
    CutB wc b (.pointer (some ⟨w8.heap.size, 0, none⟩)) (.int .i64 0) (w8.alloc (.cells #[.string b.ten, .int .u64 b.cap, .int .u64 b.used, .int .u64 b.bits, .int .u64 b.per, .slice L8 b.ls.length l8, .slice C8 b.cl.length c8] 26)) := by
  obtain ⟨bb, o, h⟩ := O
  exact ⟨w8.heap.size, L8, l8, C8, c8, bb, rfl, rfl, Arr.new w8 _ _, o.ext ((Ext.refl _).alloc _), h, T.alloc _⟩
theorem cut_b {wc w8 : World} {b : Ac} {L8 C8 : Option Addr} {l8 c8 : Nat} (T : Ext wc w8) (Z : Arr w8 wc.heap.size 26 (acV Ac0 none 0 none 0)) (O : OwnA w8 (wc.heap.size + 1) b L8 l8 C8 c8) :
    CutB wc b (.pointer (some ⟨wc.heap.size, 0, none⟩)) (.int .i64 0) (((((((w8.setCell ⟨wc.heap.size, 0, none⟩ (.string b.ten)).setCell ⟨wc.heap.size, 1, none⟩ (.int .u64 b.cap)).setCell ⟨wc.heap.size, 2, none⟩ (.int .u64 b.used)).setCell ⟨wc.heap.size, 3, none⟩ (.int .u64 b.bits)).setCell ⟨wc.heap.size, 4, none⟩ (.int .u64 b.per)).setCell ⟨wc.heap.size, 5, none⟩ (.slice L8 b.ls.length l8)).setCell ⟨wc.heap.size, 6, none⟩ (.slice C8 b.cl.length c8)) :=
  ⟨wc.heap.size, L8, l8, C8, c8, wc.heap.size + 1, rfl, rfl, arr_store7 Z _ _ _ _ _ _ _, O.keep (grown_store7 _ _ _ _ _ _ _ _ _) (O.off (.inl (Nat.lt_succ_self _))).1 (O.off (.inl (Nat.lt_succ_self _))).2, Nat.le_succ _, T.grown (grown_store7 _ _ _ _ _ _ _ _ _) (fun k hk => by injection hk with hk; omega)⟩

set_option maxHeartbeats 16000000 in
theorem come_calls (seq : Nat) (A : Option Addr) (c : Nat) (xs : List Ax) (r : Rc) (w : World) (base : Nat) (O : OwnL w base A c xs) (hb : base ≤ w.heap.size) (hl : xs.length ≤ 10000) (hr : Rises (acs xs)) (hrk : r.ok) (ht : r.ten.size ≤ 1000000)
    (hs : seq < 18446744073709551616) (hc : chkL seq (acs xs) r = 0) (hn : ∀ x ∈ xs, x.a.ls.length ≤ 90000 ∧ x.a.cl.length ≤ 90000) (hL : Laid w) (hB1 : 1 < base) :
    Calls Tryd.prog 83 #[lgA seq A xs.length c, rcA r] w (RetC w base A r.seq (comL (acs xs) r)) := by
  have HO := Lib.hid O
  have HL := Lib.hid hL
  have HBS := Lib.hid hb
  have HP : Hid (∀ W, Ext w W → Calls Tryd.prog 88 #[(.agg #[.int .u64 seq, .slice A xs.length c]), .string r.ten] W (RetV W (.tuple #[.int .i64 (posN (acs xs) r.ten.data.toList), .bool (thereB (acs xs) r.ten.data.toList)]))) := fun W e => place_calls seq A c xs r.ten W (O.rdl.ext e) (by omega) hr
  have HCZ := (chkL_zero hc).2.2
  have HPL : Hid (posN (acs xs) r.ten.data.toList ≤ xs.length) := by have := posN_le (acs xs) r.ten.data.toList; show _ ≤ _; simpa using this
  have HT : Hid (thereB (acs xs) r.ten.data.toList = true → ∃ hp : posN (acs xs) r.ten.data.toList < xs.length, accOf (acs xs) r.ten = xs[posN (acs xs) r.ten.data.toList].a ∧ (acs xs).set (posN (acs xs) r.ten.data.toList) (appA (accOf (acs xs) r.ten) r) = comL (acs xs) r) := fun h => by
    obtain ⟨hp, h1, _⟩ := acc_there hr h
    refine ⟨by simpa using hp, by rw [h1]; simp [acs], ?_⟩
    unfold comL putL
    rw [com_nm, if_pos h]
  have HF : Hid (thereB (acs xs) r.ten.data.toList = false → accOf (acs xs) r.ten = acNone r.ten ∧ (acs (xs.insertIdx (posN (acs xs) r.ten.data.toList) (axNone r.ten))).set (posN (acs xs) r.ten.data.toList) (appA (accOf (acs xs) r.ten) r) = comL (acs xs) r) := fun h => by
    refine ⟨acc_none h, ?_⟩
    rw [acs_ins _ _ _ HPL.out, set_ins _ _ _ _ (by simpa using HPL.out)]
    unfold comL putL
    rw [com_nm, if_neg (by rw [h]; decide)]
  have HNB : Hid (∀ x ∈ xs, x.a.ls.length ≤ 90000 ∧ x.a.cl.length ≤ 90000) := hn
  have HRK := Lib.hid hrk
  have HTN := Lib.hid ht
  generalize posN (acs xs) r.ten.data.toList = p at *
  generalize thereB (acs xs) r.ten.data.toList = th at *
  generalize comL (acs xs) r = CL at *
  have HAC : Hid (chkA (accOf (acs xs) r.ten) r = 0) := HCZ
  generalize accOf (acs xs) r.ten = ac at *
  clear O hL hb hr hrk ht hc hn HCZ
  unfold lgA rcA
  go_enter Tryd.func83, Tryd.ntmps83
  go_wp2_with (first
    | ((with_reducible show wpList _ _ _ ({ dst := some 2, op := Op.box 40 _, type := _, pos := _, after := _, guard := _ } :: _) _ _); refine bxA _ rfl 40 _ rfl _ rfl ?_; intro g2 w1 hg hs1 k1 e1; have G2 := Lib.hid (Nat.le_of_eq hg); have X1 := Lib.hid k1; have E1 := Lib.hid e1; clear hg hs1 k1 e1)
    | ((with_reducible show wpList _ _ _ ({ dst := some 3, op := Op.box 28 _, type := _, pos := _, after := _, guard := _ } :: _) _ _); refine bxA _ rfl 28 _ rfl _ rfl ?_; intro g3 w3 hg hs1 k1 e1; have G3 := Lib.hid (show w.heap.size ≤ g3 ∧ g2 < g3 from ⟨by have := E1.out.size; omega, by have := X1.out.lt; omega⟩); have Y3 := Lib.hid k1; have X3 := Lib.hid (X1.out.ext e1); have E3 := Lib.hid (E1.out.trans e1); clear hg hs1 k1 e1 X1 E1)
    | ((with_reducible show wpList _ _ _ ({ dst := some 4, op := Op.alloc 40, type := _, pos := _, after := _, guard := _ } :: _) _ _); refine alA _ rfl 40 rfl _ _ zero_lg ?_; intro g4 w4 hg hs1 k1 e1; have G4 := Lib.hid (show w.heap.size ≤ g4 ∧ g3 < g4 from ⟨by have := E3.out.size; omega, by have := Y3.out.lt; omega⟩); have Z4 := Lib.hid k1; have X4 := Lib.hid (X3.out.ext e1); have Y4 := Lib.hid (Y3.out.ext e1); have E4 := Lib.hid (E3.out.trans e1); obtain ⟨a0, a1⟩ := lg_cells X4.out; obtain ⟨r0, r1, r2, r3, r4, r5⟩ := rc_cells Y4.out; clear hg hs1 k1 e1 X3 Y3 E3))
  refine (HP.out _ E4.out).mono ?_
  rintro e w5 ⟨rfl, e5⟩
  have X5 := Lib.hid (X4.out.ext e5)
  have Y5 := Lib.hid (Y4.out.ext e5)
  have Z5 := Lib.hid (Z4.out.ext e5)
  have E5 := Lib.hid (E4.out.trans e5)
  have O5 := Lib.hid (HO.out.ext E5.out)
  have BA : Hid (∀ k, blk A = some k → k < w.heap.size) := fun k hk => (HO.out.1.base_ k hk).2
  clear e5 a0 a1 r0 r1 r2 r3 r4 r5 X4 Y4 Z4 E4 HP
  obtain ⟨a0, a1⟩ := lg_cells X5.out
  obtain ⟨r0, r1, r2, r3, r4, r5⟩ := rc_cells Y5.out
  go_upto_if 17 with fail
  go_cut [5] from 18 to 26 (fun s5 wx => s5 = .int .i64 p ∧ ∃ A6 c6, ∃ ys : List Ax, ∃ hp : p < ys.length, ys[p].a = ac ∧ (acs ys).set p (appA ac r) = CL ∧ (∀ x ∈ ys, x.a.ls.length ≤ 90000 ∧ x.a.cl.length ≤ 90000) ∧ ys.length ≤ 20000 ∧ Arr wx g2 40 #[.int .u64 seq, .slice A6 ys.length c6] ∧ Arr wx g3 28 (rcV r) ∧ Arr wx g4 40 #[.int .u64 0, .slice none 0 0] ∧ OwnL wx base A6 c6 ys ∧ w.grownBy wx (blk A) ∧ (blk A6 = blk A ∨ ∃ g, blk A6 = some g ∧ w.heap.size ≤ g) ∧ OffL A6 ys g2 ∧ Off A6 g3 ∧ OffL A6 ys g4)
  case first =>
    cases th with
    | true =>
      obtain ⟨hp, h1, h2⟩ := HT.out rfl
      have K : Hid (∃ A6 c6, ∃ ys : List Ax, ∃ hp : p < ys.length, ys[p].a = ac ∧ (acs ys).set p (appA ac r) = CL ∧ (∀ x ∈ ys, x.a.ls.length ≤ 90000 ∧ x.a.cl.length ≤ 90000) ∧ ys.length ≤ 20000 ∧ Arr w5 g2 40 #[.int .u64 seq, .slice A6 ys.length c6] ∧ Arr w5 g3 28 (rcV r) ∧ Arr w5 g4 40 #[.int .u64 0, .slice none 0 0] ∧ OwnL w5 base A6 c6 ys ∧ w.grownBy w5 (blk A) ∧ (blk A6 = blk A ∨ ∃ g, blk A6 = some g ∧ w.heap.size ≤ g) ∧ OffL A6 ys g2 ∧ Off A6 g3 ∧ OffL A6 ys g4) :=
        ⟨A, c, xs, hp, h1.symm, h2, HNB.out, by omega, X5.out, Y5.out, Z5.out, O5.out, E5.out.toGrown, .inl rfl, HO.out.off (.inr G2.out), fun k hk => by have := BA.out k hk; have := G3.out; omega, HO.out.off (.inr G4.out.1)⟩
      clear h1 h2 HT HF
      go_wp2_with fail
      go_meet
      exact ⟨rfl, K.out⟩
    | false =>
      obtain ⟨h1, h2⟩ := HF.out rfl
      have H1 := Lib.hid h1
      have H2 := Lib.hid h2
      have HIN : Hid (∀ W vb, Ext w5 W → Arr W vb 26 (axNone r.ten).cs.toArray → w5.heap.size ≤ vb → Calls Tryd.prog 117 #[.slice A xs.length c, .int .i64 p, .slice (some ⟨vb, 0, none⟩) 1 1] W (RetIn W base A (xs.length + 1) ((xs.insertIdx p (axNone r.ten)).flatMap Ax.cs))) := fun W vb e hv hvb =>
        insert_calls base A c p xs (axNone r.ten) vb W (O5.out.ext e).1 hv (fun he => by have := BA.out _ he; have := E5.out.size; omega) HPL.out (by omega) (by have := HBS.out; have := E5.out.size; have := e.size; omega)
      clear h1 h2 HT HF
      go_wp2_with (first
        | (go_at_call 117; refine (HIN.out _ w5.heap.size ((Ext.refl _).alloc _) (Arr.new w5 _ _) (Nat.le_refl _)).mono ?_; rintro e w7 ⟨A7, c7, rfl, o7, g7, b7⟩; have X7 := Lib.hid ((X5.out.ext ((Ext.refl _).alloc _)).off g7 (fun k hk => by have := BA.out k hk; have := G2.out; omega)); have Y7 := Lib.hid ((Y5.out.ext ((Ext.refl _).alloc _)).off g7 (fun k hk => by have := BA.out k hk; have := G3.out; omega)); have Z7 := Lib.hid ((Z5.out.ext ((Ext.refl _).alloc _)).off g7 (fun k hk => by have := BA.out k hk; have := G4.out; omega)); have D7 := Lib.hid ((Ext.toGrown (row := blk A) (E5.out.trans ((Ext.refl _).alloc _))).trans g7); have B7 : Hid (blk A7 = blk A ∨ ∃ g, blk A7 = some g ∧ w5.heap.size + 1 ≤ g) := b7.imp id (fun ⟨g, h1, h2⟩ => ⟨g, h1, by simpa using h2⟩); have O7 := Lib.hid (OwnL.ins (O5.out.ext ((Ext.refl _).alloc _)) (axNone_in (by have := HTN.out; omega)) (acNone_ok HTN.out) (axNone_ap _) (axNone_hi _ _) o7 HPL.out g7 b7); clear o7 g7 b7 a0 a1 r0 r1 r2 r3 r4 r5 HIN)
        | ((with_reducible show wpList _ _ _ ({ dst := none, op := Op.store 38 _ _, type := _, pos := _, after := _, guard := _ } :: _) _ _); refine stF _ rfl 38 _ _ rfl g2 1 (.slice A7 (xs.length + 1) c7) _ _ rfl rfl X7.out (by show 1 < 2; decide) size_acl rfl ?_; intro w8 hs k8 g8; have X8 := Lib.hid (show Arr w8 g2 40 #[.int .u64 seq, .slice A7 (xs.length + 1) c7] from k8); have Y8 := Lib.hid (Y7.out.grown g8 (by have := G3.out.2; intro hh; injection hh; omega)); have Z8 := Lib.hid (Z7.out.grown g8 (by have := G4.out.2; have := G3.out.2; intro hh; injection hh; omega)); have D8 := Lib.hid (grown_mix D7.out g8 (.inr G2.out)); clear hs k8; have G8 := Lib.hid g8; clear g8))
      have FA : Hid (∀ g, w.heap.size ≤ g → g ≤ w5.heap.size → Off A7 g) := fun g h1 h2 k hk => by
        rcases B7.out with h | ⟨g', h, h3⟩
        · have := BA.out k (h ▸ hk); omega
        · rw [h] at hk; injection hk with hk; omega
      have S5 : Hid (g2 < w5.heap.size ∧ g3 < w5.heap.size ∧ g4 < w5.heap.size) := ⟨X5.out.lt, Y5.out.lt, Z5.out.lt⟩
      have F2 := Lib.hid ((HO.out.off (.inr G2.out)).ins (s := r.ten) HPL.out (FA.out g2 G2.out (by have := S5.out; omega)))
      have F4 := Lib.hid ((HO.out.off (.inr G4.out.1)).ins (s := r.ten) HPL.out (FA.out g4 G4.out.1 (by have := S5.out; omega)))
      have F3 := Lib.hid (FA.out g3 G3.out.1 (by have := S5.out; omega))
      have O8 := Lib.hid (O7.out.keep G8.out F2.out)
      have hyl : (xs.insertIdx p (axNone r.ten)).length = xs.length + 1 := by rw [List.length_insertIdx, if_pos HPL.out]
      go_meet
      refine ⟨rfl, A7, c7, xs.insertIdx p (axNone r.ten), by have := HPL.out; omega, ?_, H2.out, ?_, by omega, by rw [hyl]; exact X8.out, Y8.out, Z8.out, O8.out, D8.out, ?_, F2.out, F3.out, F4.out⟩
      · rw [get_ins HPL.out]; exact H1.out.symm
      · intro x hx
        rcases (List.mem_insertIdx HPL.out).1 hx with rfl | hx
        · exact ⟨Nat.zero_le _, Nat.zero_le _⟩
        · exact HNB.out x hx
      · exact B7.out.imp id (fun ⟨g, h1, h2⟩ => ⟨g, h1, by have := E5.out.size; omega⟩)
  case rest =>
    obtain ⟨wB, rfl⟩ : ∃ v, v = wc := ⟨_, rfl⟩
    obtain ⟨rfl, A6, c6, ys, hp, hy, hset, hn6, hl6, x6, y6, z6, o6, d6, b6, f2, f3, f4⟩ := hcut
    subst hy
    have X6 := Lib.hid x6
    have Y6 := Lib.hid y6
    have Z6 := Lib.hid z6
    have O6 := Lib.hid o6
    have D6 := Lib.hid d6
    have B6 := Lib.hid b6
    have F2 := Lib.hid f2
    have F3 := Lib.hid f3
    have F4 := Lib.hid f4
    have HST := Lib.hid hset
    have HN6 := Lib.hid (hn6 _ (List.getElem_mem hp))
    have OX6 := Lib.hid (o6.2 _ (List.getElem_mem hp))
    clear x6 y6 z6 d6 b6 f2 f3 f4 hset hn6 a0 a1 r0 r1 r2 r3 r4 r5 X5 Y5 Z5 O5 E5 HT HF HNB HPL BA
    obtain ⟨g, cur, hA, hcur, hcl, hcn⟩ := o6.row hp
    subst hA
    have CU := Lib.hid hcur
    have CL7 := Lib.hid hcl
    obtain ⟨ad, hA2, x0, x1, x2, x3, x4, x5, x6⟩ := o6.rdl.rd.seven hp
    injection hA2 with hA2
    subst hA2
    clear o6 hcur hcl
    obtain ⟨a0, a1⟩ := lg_cells X6.out
    obtain ⟨r0, r1, r2, r3, r4, r5⟩ := rc_cells Y6.out
    have k1 : (p : Int) < (ys.length : Int) := by omega
    have HPY := Lib.hid hp
    have LC : Hid (Laid wB) := HL.out.off D6.out (fun he => by have := (HO.out.1.base_ 1 he).1; omega)
    generalize ys[p] = x at *
    have HAP : Hid (∀ W, Ext wB W → Calls Tryd.prog 15 #[(.agg #[.string x.a.ten, .int .u64 x.a.cap, .int .u64 x.a.used, .int .u64 x.a.bits, .int .u64 x.a.per, .slice x.AL x.a.ls.length x.cL, .slice x.AC x.a.cl.length x.cC]), (.agg #[.int .u64 r.seq, .int .i64 r.kind, .string r.ten, .int .u64 r.lease, .int .u64 r.n, .int .u64 r.bits])] W (fun e w' => ∃ L8 l8 C8 c8, e = .returned (.tuple #[.agg #[.string (appA x.a r).ten, .int .u64 (appA x.a r).cap, .int .u64 (appA x.a r).used, .int .u64 (appA x.a r).bits, .int .u64 (appA x.a r).per, .slice L8 (appA x.a r).ls.length l8, .slice C8 (appA x.a r).cl.length c8], .int .i64 0]) ∧ OwnA w' W.heap.size (appA x.a r) L8 l8 C8 c8 ∧ Ext W w')) := fun W e => by
      have h := aapply_calls x.a r x.AL x.AC x.cL x.cC W (OX6.out.1.ext e).rd OX6.out.2.1 HRK.out OX6.out.1.nl OX6.out.1.nc (LC.out.ext e)
      rw [if_pos HAC.out, HAC.out] at h
      exact h
    have BOK := Lib.hid (appA_ok2 OX6.out.2.1 HRK.out HAC.out (by have := HN6.out.1; omega) (by have := HN6.out.2; omega))
    generalize appA x.a r = b at *
    clear HAC HN6 OX6 LC HRK HTN HL
    go_upto_region 4 with fail
    go_cut [7, 8] from 27 to 36 (fun pv xv wx => CutB wB b pv xv wx)
    case first =>
      clear hl hs hl6 hp k1
      have k1 : (p : Int) < (ys.length : Int) := by have := HPY.out; omega
      simp only [add_mk, Nat.zero_add] at x0 x1 x2 x3 x4 x5 x6
      have l2 : g2 < wB.heap.size := X6.out.lt
      have l3 : g3 < wB.heap.size := Y6.out.lt
      have lg : g < wB.heap.size := CU.out.lt
      have n2 : ¬ g2 = wB.heap.size := by omega
      have n3 : ¬ g3 = wB.heap.size := by omega
      have ng : ¬ g = wB.heap.size := by omega
      have AL : Hid (∀ ob, Ext wB (wB.drew.alloc ob)) := fun ob => (Ext.refl _).drew.alloc _
      have aa1 : ∀ ob, (wB.drew.alloc ob).cell? ⟨g2, 1, none⟩ = some (.slice (some ⟨g, 0, none⟩) ys.length c6) := fun ob => (X6.out.ext (AL.out ob)).cell 1
      have xx0 : ∀ ob, (wB.drew.alloc ob).cell? ⟨g, p * 7, none⟩ = some (.string x.a.ten) := fun ob => (AL.out ob).cell x0
      have xx1 : ∀ ob, (wB.drew.alloc ob).cell? ⟨g, p * 7 + 1, none⟩ = some (.int .u64 x.a.cap) := fun ob => (AL.out ob).cell x1
      have xx2 : ∀ ob, (wB.drew.alloc ob).cell? ⟨g, p * 7 + 2, none⟩ = some (.int .u64 x.a.used) := fun ob => (AL.out ob).cell x2
      have xx3 : ∀ ob, (wB.drew.alloc ob).cell? ⟨g, p * 7 + 3, none⟩ = some (.int .u64 x.a.bits) := fun ob => (AL.out ob).cell x3
      have xx4 : ∀ ob, (wB.drew.alloc ob).cell? ⟨g, p * 7 + 4, none⟩ = some (.int .u64 x.a.per) := fun ob => (AL.out ob).cell x4
      have xx5 : ∀ ob, (wB.drew.alloc ob).cell? ⟨g, p * 7 + 5, none⟩ = some (.slice x.AL x.a.ls.length x.cL) := fun ob => (AL.out ob).cell x5
      have xx6 : ∀ ob, (wB.drew.alloc ob).cell? ⟨g, p * 7 + 6, none⟩ = some (.slice x.AC x.a.cl.length x.cC) := fun ob => (AL.out ob).cell x6
      have rr0 : ∀ ob, (wB.drew.alloc ob).cell? ⟨g3, 0, none⟩ = some (.int .u64 r.seq) := fun ob => (AL.out ob).cell r0
      have rr1 : ∀ ob, (wB.drew.alloc ob).cell? ⟨g3, 1, none⟩ = some (.int .i64 r.kind) := fun ob => (AL.out ob).cell r1
      have rr2 : ∀ ob, (wB.drew.alloc ob).cell? ⟨g3, 2, none⟩ = some (.string r.ten) := fun ob => (AL.out ob).cell r2
      have rr3 : ∀ ob, (wB.drew.alloc ob).cell? ⟨g3, 3, none⟩ = some (.int .u64 r.lease) := fun ob => (AL.out ob).cell r3
      have rr4 : ∀ ob, (wB.drew.alloc ob).cell? ⟨g3, 4, none⟩ = some (.int .u64 r.n) := fun ob => (AL.out ob).cell r4
      have rr5 : ∀ ob, (wB.drew.alloc ob).cell? ⟨g3, 5, none⟩ = some (.int .u64 r.bits) := fun ob => (AL.out ob).cell r5
      go_region_with (first | (go_at_call 15; refine (HAP.out _ (by first | exact (Ext.refl _).drew | exact (Ext.refl _).drew.alloc _ | assumption)).mono ?_; rintro e w8 ⟨L8, l8, C8, c8, rfl, o8, e8⟩; have T8 : Ext wB w8 := Ext.trans (by first | exact (Ext.refl _).drew | exact (Ext.refl _).drew.alloc _ | assumption) e8; have O8 : Hid (∃ bb, OwnA w8 bb b L8 l8 C8 c8 ∧ wB.heap.size ≤ bb) := ⟨_, o8, by simp⟩; (try (have Z8 : Hid (Arr w8 wB.heap.size 26 (acV Ac0 none 0 none 0)) := Lib.hid (Arr.ext (Arr.new wB.drew _ _) e8); have O9 : Hid (OwnA w8 (wB.heap.size + 1) b L8 l8 C8 c8) := Lib.hid (by simpa using o8); have z0 : w8.cell? ⟨wB.heap.size, 0, none⟩ = some (.string ByteArray.empty) := Z8.out.cell 0; have f0 : w8.frozen? ⟨wB.heap.size, 0, none⟩ = false := Z8.out.frozen 0; have z1 : w8.cell? ⟨wB.heap.size, 1, none⟩ = some (.int .u64 0) := Z8.out.cell 1; have f1 : w8.frozen? ⟨wB.heap.size, 1, none⟩ = false := Z8.out.frozen 1; have z2 : w8.cell? ⟨wB.heap.size, 2, none⟩ = some (.int .u64 0) := Z8.out.cell 2; have f2 : w8.frozen? ⟨wB.heap.size, 2, none⟩ = false := Z8.out.frozen 2; have z3 : w8.cell? ⟨wB.heap.size, 3, none⟩ = some (.int .u64 0) := Z8.out.cell 3; have f3 : w8.frozen? ⟨wB.heap.size, 3, none⟩ = false := Z8.out.frozen 3; have z4 : w8.cell? ⟨wB.heap.size, 4, none⟩ = some (.int .u64 0) := Z8.out.cell 4; have f4 : w8.frozen? ⟨wB.heap.size, 4, none⟩ = false := Z8.out.frozen 4; have z5 : w8.cell? ⟨wB.heap.size, 5, none⟩ = some (.slice none 0 0) := Z8.out.cell 5; have f5 : w8.frozen? ⟨wB.heap.size, 5, none⟩ = false := Z8.out.frozen 5; have z6 : w8.cell? ⟨wB.heap.size, 6, none⟩ = some (.slice none 0 0) := Z8.out.cell 6; have f6 : w8.frozen? ⟨wB.heap.size, 6, none⟩ = false := Z8.out.frozen 6)); clear o8))
      all_goals
        go_wp2_with fail
        go_meet
        first | with_reducible exact cut_a T8 O8.out | with_reducible exact cut_b T8 Z8.out O9.out
    case rest =>
      obtain ⟨g7, L8, l8, C8, c8, bb, rfl, rfl, k7, o7, hbb, e7⟩ := hcut
      have Z7 := Lib.hid k7
      have CU7 := Lib.hid (CU.out.ext e7)
      have X7 := Lib.hid (X6.out.ext e7)
      have Y7 := Lib.hid (Y6.out.ext e7)
      have V7 := Lib.hid (Z6.out.ext e7)
      have O7 := Lib.hid (O6.out.ext e7)
      have OB7 := Lib.hid o7
      have D7 := Lib.hid (D6.out.trans (Ext.toGrown (row := blk A) e7))
      have SZ := Lib.hid hbb
      have SB : Hid (base ≤ g ∧ g < wB.heap.size ∧ base ≤ wB.heap.size ∧ g2 < wB.heap.size ∧ g4 < wB.heap.size) := ⟨(O6.out.1.base_ g rfl).1, CU.out.lt, by have := (O6.out.1.base_ g rfl).1; have := CU.out.lt; omega, X6.out.lt, Z6.out.lt⟩
      obtain ⟨z0, z1, z2, z3, z4, z5, z6⟩ := ac_cells k7
      clear k7 o7 hbb e7 x0 x1 x2 x3 x4 x5 x6 a0 a1 r0 r1 r2 r3 r4 r5 CU X6 Y6 Z6 O6 D6 HAP
      obtain ⟨a0, a1⟩ := lg_cells X7.out
      obtain ⟨r0, r1, r2, r3, r4, r5⟩ := rc_cells Y7.out
      have N2 : Hid (g2 ≠ g) := fun e => F2.out.1 g rfl e.symm
      have N3 : Hid (g3 ≠ g) := fun e => F3.out g rfl e.symm
      have N4 : Hid (g4 ≠ g) := fun e => F4.out.1 g rfl e.symm
      have HI : Hid ((Ax.mk b L8 l8 C8 c8).hi bb) := OB7.out.hi (Nat.le_refl _)
      go_wp2_with (first
        | ((with_reducible show wpList _ _ _ ({ dst := none, op := Op.store 26 (Operand.tmp 43) _, type := _, pos := _, after := _, guard := _ } :: _) _ _); refine stE _ rfl 26 _ _ rfl g (p * 7) (acV b L8 l8 C8 c8) 26 cur (by first | rfl | (simp [add_mk]; done)) rfl CU7.out (by show p * 7 + 7 ≤ _; have := CL7.out; have := HPY.out; omega) size_acct (ac_one _ _ _ _ _) ?_; intro w9 hs9 k9 g9; have X9 := Lib.hid (X7.out.grown g9 (by have := N2.out; intro hh; injection hh; omega)); have Y9 := Lib.hid (Y7.out.grown g9 (by have := N3.out; intro hh; injection hh; omega)); have V9 := Lib.hid (V7.out.grown g9 (by have := N4.out; intro hh; injection hh; omega)); have O9 := Lib.hid (OwnL.put (x := ⟨b, L8, l8, C8, c8⟩) O7.out HPY.out (OB7.out.in_ BOK.out) BOK.out (OB7.out.ap (fun k hk => Nat.lt_of_lt_of_le (Nat.lt_of_le_of_lt (Nat.le_of_eq (Option.some.inj (hk.symm.trans rfl))) SB.out.2.1) SZ.out)) (OB7.out.hi (by have := SB.out; have := SZ.out; omega)) cur CU7.out k9 g9); have D9 := Lib.hid (grown_mix D7.out g9 (B6.out.elim (fun h => .inl h.symm) (fun ⟨q, h1, h2⟩ => .inr (Nat.le_trans h2 (Nat.le_of_eq (Option.some.inj (h1.symm.trans rfl))))))); clear hs9 k9 g9 z0 z1 z2 z3 z4 z5 z6 a0 a1 r0 r1 r2 r3 r4 r5; obtain ⟨r0, r1, r2, r3, r4, r5⟩ := rc_cells Y9.out)
        | ((with_reducible show wpList _ _ _ ({ dst := none, op := Op.store 22 _ _, type := _, pos := _, after := _, guard := _ } :: _) _ _); refine stF _ rfl 22 _ _ rfl g2 0 (.int .u64 r.seq) _ _ rfl rfl X9.out (by show 0 < 2; decide) size_u64 rfl ?_; intro w10 hs10 k10 g10; have X10 := Lib.hid (show Arr w10 g2 40 #[.int .u64 r.seq, .slice (some ⟨g, 0, none⟩) ys.length c6] from k10); have V10 := Lib.hid (V9.out.grown g10 (by have := G4.out.2; have := G3.out.2; intro hh; injection hh; omega)); have O10 := Lib.hid (O9.out.keep g10 (F2.out.set HI.out (by have := SB.out; have := SZ.out; omega))); have D10 := Lib.hid (grown_mix D9.out g10 (.inr G2.out)); clear hs10 k10 g10)
        | ((with_reducible show wpList _ _ _ ({ dst := some 47, op := Op.load 40 _, type := _, pos := _, after := _, guard := _ } :: _) _ _); refine ldA _ rfl 40 40 _ rfl g2 rfl _ _ X10.out Tryd.underlying40 rfl size_lg ?_)
        | ((with_reducible show wpList _ _ _ ({ dst := none, op := Op.store 40 _ _, type := _, pos := _, after := _, guard := _ } :: _) _ _); refine stA _ rfl 40 40 _ _ rfl g4 _ #[.int .u64 r.seq, .slice (some ⟨g, 0, none⟩) ys.length c6] rfl rfl V10.out size_lg rfl (lg_one _ _ _ _) ?_; intro w11 hs11 k11 g11; have V11 := Lib.hid k11; have O11 := Lib.hid (O10.out.keep g11 (F4.out.set HI.out (by have := SB.out; have := SZ.out; omega))); have D11 := Lib.hid (grown_mix D10.out g11 (.inr G4.out.1)); clear hs11 k11 g11))
      exact ret_row Tryd.results83 g4 _ _ _ rfl V11.out Tryd.underlying40 rfl size_lg ⟨some ⟨g, 0, none⟩, c6, ys.set p ⟨b, L8, l8, C8, c8⟩, by rw [List.length_set], by rw [← HST.out]; simp [acs, List.map_set], O11.out, D11.out, B6.out⟩
end Go.Proofs.YtkbjnlbbfapgdaaDoor

namespace Go.Proofs.YtkbjnlbbfapgdaaDoor
open Go.RowKit

theorem Laid.lt {w : World} (h : Laid w) : 1 < w.heap.size := by
  have h0 := h 0 (by decide)
  simp only [World.cell?] at h0
  cases hh : w.heap[1]? with
  | none => simp [hh] at h0
  | some b => exact (Array.getElem?_eq_some_iff.1 hh).1
/-- a ledger of the call's own, and what is wrong -/
def RetLT (w : World) (seq : Nat) (l : List Ac) (x : Int) (e : Ending) (w' : World) : Prop := ∃ A c, ∃ xs : List Ax, e = .returned (.tuple #[lgA seq A xs.length c, .int .i64 x]) ∧ acs xs = l ∧ OwnL w' w.heap.size A c xs ∧ Ext w w'

set_option maxHeartbeats 8000000 in
theorem lgapply_ok (seq : Nat) (A : Option Addr) (c : Nat) (xs : List Ax) (r : Rc) (w : World) (hb : RdL w A xs) (hok : ∀ x ∈ xs, x.a.ok) (hl : xs.length ≤ 1000) (hr : Rises (acs xs)) (hrk : r.ok) (ht : r.ten.size ≤ 1000000) (hs : seq < 18446744073709551616)
    (hn : ∀ x ∈ xs, x.a.ls.length ≤ 90000 ∧ x.a.cl.length ≤ 90000) (hL : Laid w) (h0 : chkL seq (acs xs) r = 0) :
    Calls Tryd.prog 34 #[lgA seq A xs.length c, rcA r] w (RetLT w r.seq (comL (acs xs) r) 0) := by
  have HL := Lib.hid hL
  have HCK : Hid (∀ W, Ext w W → Calls Tryd.prog 36 #[(.agg #[.int .u64 seq, .slice A xs.length c]), (.agg #[.int .u64 r.seq, .int .i64 r.kind, .string r.ten, .int .u64 r.lease, .int .u64 r.n, .int .u64 r.bits])] W (RetV W (.int .i64 (chkL seq (acs xs) r)))) := fun W e => lgcheck_calls seq A c xs r W (hb.ext e) hok (by omega) hr hrk ht hs
  have HCL : Hid (∀ W, Ext w W → Calls Tryd.prog 47 #[(.agg #[.int .u64 seq, .slice A xs.length c])] W (fun e w' => ∃ A' c', ∃ ys : List Ax, e = .returned ((.agg #[.int .u64 seq, .slice A' ys.length c'])) ∧ acs ys = acs xs ∧ OwnL w' W.heap.size A' c' ys ∧ Ext W w')) := fun W e => lgclone_calls seq A c xs W (hb.ext e) hok (by omega)
  have HCO : Hid (∀ A' c' ys W base, OwnL W base A' c' ys → base ≤ W.heap.size → 1 < base → acs ys = acs xs → Ext w W → chkL seq (acs xs) r = 0 → Calls Tryd.prog 83 #[(.agg #[.int .u64 seq, .slice A' ys.length c']), (.agg #[.int .u64 r.seq, .int .i64 r.kind, .string r.ten, .int .u64 r.lease, .int .u64 r.n, .int .u64 r.bits])] W (fun e w' => ∃ A8 c8, ∃ zs : List Ax, e = .returned ((.agg #[.int .u64 r.seq, .slice A8 zs.length c8])) ∧ acs zs = comL (acs xs) r ∧ OwnL w' base A8 c8 zs ∧ W.grownBy w' (blk A') ∧ (blk A8 = blk A' ∨ ∃ g, blk A8 = some g ∧ W.heap.size ≤ g))) := fun A' c' ys W base O hb h1 hy e h0 => by
    have hyl : ys.length = xs.length := by have := congrArg List.length hy; simpa using this
    have hm : ∀ x ∈ ys, x.a.ls.length ≤ 90000 ∧ x.a.cl.length ≤ 90000 := fun x hx => by
      have : x.a ∈ acs xs := by rw [← hy]; exact List.mem_map_of_mem hx
      obtain ⟨z, hz, he⟩ := List.mem_map.1 this
      rw [← he]; exact hn z hz
    have := come_calls seq A' c' ys r W base O hb (by omega) (by rw [hy]; exact hr) hrk ht hs (by rw [hy]; exact h0) hm (HL.out.ext e) h1
    rw [hy] at this
    exact this
  have LT1 := Lib.hid hL.lt
  clear hb hok hr hrk ht hn hL
  rw [h0] at HCK
  have HCO := Lib.hid (fun A' c' ys W base O hb h1 hy e => HCO.out A' c' ys W base O hb h1 hy e h0)
  clear h0
  unfold lgA rcA
  go_enter Tryd.func34, Tryd.ntmps34
  go_wp2_with (first
    | ((with_reducible show wpList _ _ _ ({ dst := some 2, op := Op.box 40 _, type := _, pos := _, after := _, guard := _ } :: _) _ _); refine bxA _ rfl 40 _ rfl _ rfl ?_; intro g1 w1 hg hs1 k1 e1; have X0 := Lib.hid k1; have E0 := Lib.hid e1; clear hg hs1 k1 e1)
    | ((with_reducible show wpList _ _ _ ({ dst := some 3, op := Op.box 28 _, type := _, pos := _, after := _, guard := _ } :: _) _ _); refine bxA _ rfl 28 _ rfl _ rfl ?_; intro g3 w3 hg hs1 k1 e1; have Y1 := Lib.hid k1; have X1 := Lib.hid (X0.out.ext e1); have E1 := Lib.hid (E0.out.trans e1); clear hg hs1 k1 e1 X0 E0)
    | ((with_reducible show wpList _ _ _ ({ dst := some 4, op := Op.alloc 40, type := _, pos := _, after := _, guard := _ } :: _) _ _); refine alA _ rfl 40 rfl _ _ zero_lg ?_; intro g4 w4 hg hs1 k1 e1; have Z4 := Lib.hid k1; have X4 := Lib.hid (X1.out.ext e1); have Y4 := Lib.hid (Y1.out.ext e1); have E4 := Lib.hid (E1.out.trans e1); have G4 := Lib.hid (show w.heap.size ≤ g4 from by have := E1.out.size; omega); obtain ⟨a0, a1⟩ := lg_cells X4.out; obtain ⟨r0, r1, r2, r3, r4, r5⟩ := rc_cells Y4.out; clear hg hs1 k1 e1 X1 Y1 E1))
  refine (HCK.out _ E4.out).mono ?_
  rintro e w5 ⟨rfl, e5⟩
  have X5 := Lib.hid (X4.out.ext e5)
  have Y5 := Lib.hid (Y4.out.ext e5)
  have Z5 := Lib.hid (Z4.out.ext e5)
  have E5 := Lib.hid (E4.out.trans e5)
  clear e5 a0 a1 r0 r1 r2 r3 r4 r5 X4 Y4 Z4 E4 HCK
  obtain ⟨a0, a1⟩ := lg_cells X5.out
  obtain ⟨r0, r1, r2, r3, r4, r5⟩ := rc_cells Y5.out
  have HK : Hid (∀ A' c' ys W base, OwnL W base A' c' ys → base ≤ W.heap.size → 1 < base → acs ys = acs xs → Ext w W → Calls Tryd.prog 83 #[(.agg #[.int .u64 seq, .slice A' ys.length c']), (.agg #[.int .u64 r.seq, .int .i64 r.kind, .string r.ten, .int .u64 r.lease, .int .u64 r.n, .int .u64 r.bits])] W (fun e w' => ∃ A8 c8, ∃ zs : List Ax, e = .returned ((.agg #[.int .u64 r.seq, .slice A8 zs.length c8])) ∧ acs zs = comL (acs xs) r ∧ OwnL w' base A8 c8 zs ∧ W.grownBy w' (blk A') ∧ (blk A8 = blk A' ∨ ∃ g, blk A8 = some g ∧ W.heap.size ≤ g))) := fun A' c' ys W base O hb h1 hy e => HCO.out A' c' ys W base O hb h1 hy e
  clear HCO
  have RC : Hid (∀ W, Ext w5 W → W.cell? ⟨g3, 0, none⟩ = some (.int .u64 r.seq) ∧ W.cell? ⟨g3, 1, none⟩ = some (.int .i64 r.kind) ∧ W.cell? ⟨g3, 2, none⟩ = some (.string r.ten) ∧ W.cell? ⟨g3, 3, none⟩ = some (.int .u64 r.lease) ∧ W.cell? ⟨g3, 4, none⟩ = some (.int .u64 r.n) ∧ W.cell? ⟨g3, 5, none⟩ = some (.int .u64 r.bits)) := fun W e => rc_cells (Y5.out.ext e)
  clear r0 r1 r2 r3 r4 r5
  obtain ⟨r0, r1, r2, r3, r4, r5⟩ := RC.out _ (Ext.refl _)
  go_wp2_with fail
  go_region_with (first
    | (go_at_call 47; refine (HCL.out _ (E5.out.trans (by first | exact (Ext.refl _).drew | assumption | exact Ext.refl _))).mono ?_; rintro e w6 ⟨A6, c6, ys, rfl, hy6, o6, e6⟩; have T6 : Ext w5 w6 := Ext.trans (by first | exact (Ext.refl _).drew | assumption | exact Ext.refl _) e6; have O6 := Lib.hid o6; have HY6 := Lib.hid hy6; have D6 := Lib.hid (show ∃ b, OwnL w6 b A6 c6 ys ∧ w5.heap.size ≤ b ∧ b ≤ w6.heap.size from ⟨_, o6, by simp, e6.size⟩); have d6 := RC.out _ T6; obtain ⟨s0, s1, s2, s3, s4, s5⟩ := d6; clear e6 hy6 o6)
    | (go_at_call 83; have D7 := D6.out; obtain ⟨b7, p7, q7, l7⟩ := D7; have S7 := Lib.hid q7; have O7 := Lib.hid p7; refine (HK.out A6 c6 ys w6 b7 p7 l7 (by have := LT1.out; have := E5.out.size; omega) HY6.out (E5.out.trans T6)).mono ?_; rintro e w7 ⟨A7, c7, zs, rfl, hz7, o8, g8, b8⟩; have O8 := Lib.hid o8; have HZ8 := Lib.hid hz7; have Z8 := Lib.hid ((Z5.out.ext T6).off g8 (fun k hk => by have := (O7.out.1.base_ k hk).1; have := Z5.out.lt; have := S7.out; omega)); have E8 := Lib.hid ((E5.out.trans T6).grown g8 (fun k hk => by have := (O7.out.1.base_ k hk).1; have := S7.out; have := E5.out.size; omega)); have F8 := Lib.hid (show g4 < b7 from by have := Z5.out.lt; have := S7.out; omega); have f0 := Z8.out.frozen 0; have f1 := Z8.out.frozen 1; obtain ⟨z0, z1⟩ := lg_cells Z8.out; clear hz7 o8 g8 b8 p7 q7 l7))
  all_goals
    have Z9 : Hid (Arr ((w7.setCell ⟨g4, 0, none⟩ (.int .u64 r.seq)).setCell ⟨g4, 1, none⟩ (.slice A7 zs.length c7)) g4 40 #[.int .u64 r.seq, .slice A7 zs.length c7]) := (Z8.out.set 0 _).set 1 _
    have E9 : Hid (Ext w ((w7.setCell ⟨g4, 0, none⟩ (.int .u64 r.seq)).setCell ⟨g4, 1, none⟩ (.slice A7 zs.length c7))) := (E8.out.setCell (p := ⟨g4, 0, none⟩) G4.out _).setCell (p := ⟨g4, 1, none⟩) G4.out _
    have O9 : Hid (OwnL ((w7.setCell ⟨g4, 0, none⟩ (.int .u64 r.seq)).setCell ⟨g4, 1, none⟩ (.slice A7 zs.length c7)) b7 A7 c7 zs) := O8.out.keep ((grown_setCell w7 g4 0 _).trans (grown_setCell _ g4 1 _)) (O8.out.off (.inl F8.out))
    have L9 : Hid (w.heap.size ≤ b7) := Nat.le_trans E5.out.size S7.out
    go_wp2_with fail
    exact ret_rowT Tryd.results34 g4 _ _ _ _ rfl rfl Z9.out Tryd.underlying40 rfl size_lg ⟨A7, c7, zs, rfl, HZ8.out, O9.out.lower L9.out, E9.out⟩
set_option maxHeartbeats 8000000 in
theorem lgapply_err (seq : Nat) (A : Option Addr) (c : Nat) (xs : List Ax) (r : Rc) (w : World) (hb : RdL w A xs) (hok : ∀ x ∈ xs, x.a.ok) (hl : xs.length ≤ 1000) (hr : Rises (acs xs)) (hrk : r.ok) (ht : r.ten.size ≤ 1000000) (hs : seq < 18446744073709551616)
    (hn : ∀ x ∈ xs, x.a.ls.length ≤ 90000 ∧ x.a.cl.length ≤ 90000) (hL : Laid w) (h0 : chkL seq (acs xs) r ≠ 0) :
    Calls Tryd.prog 34 #[lgA seq A xs.length c, rcA r] w (RetLT w 0 [] (chkL seq (acs xs) r)) := by
  have HL := Lib.hid hL
  have HCK : Hid (∀ W, Ext w W → Calls Tryd.prog 36 #[(.agg #[.int .u64 seq, .slice A xs.length c]), (.agg #[.int .u64 r.seq, .int .i64 r.kind, .string r.ten, .int .u64 r.lease, .int .u64 r.n, .int .u64 r.bits])] W (RetV W (.int .i64 (chkL seq (acs xs) r)))) := fun W e => lgcheck_calls seq A c xs r W (hb.ext e) hok (by omega) hr hrk ht hs
  have HCL : Hid (∀ W, Ext w W → Calls Tryd.prog 47 #[(.agg #[.int .u64 seq, .slice A xs.length c])] W (fun e w' => ∃ A' c', ∃ ys : List Ax, e = .returned ((.agg #[.int .u64 seq, .slice A' ys.length c'])) ∧ acs ys = acs xs ∧ OwnL w' W.heap.size A' c' ys ∧ Ext W w')) := fun W e => lgclone_calls seq A c xs W (hb.ext e) hok (by omega)
  have LT1 := Lib.hid hL.lt
  clear hb hok hr hrk ht hn hL
  have q0 : (chkL seq (acs xs) r != 0) = true := by simpa using h0
  clear h0
  generalize chkL seq (acs xs) r = E at *
  unfold lgA rcA
  go_enter Tryd.func34, Tryd.ntmps34
  go_wp2_with (first
    | ((with_reducible show wpList _ _ _ ({ dst := some 2, op := Op.box 40 _, type := _, pos := _, after := _, guard := _ } :: _) _ _); refine bxA _ rfl 40 _ rfl _ rfl ?_; intro g1 w1 hg hs1 k1 e1; have X0 := Lib.hid k1; have E0 := Lib.hid e1; clear hg hs1 k1 e1)
    | ((with_reducible show wpList _ _ _ ({ dst := some 3, op := Op.box 28 _, type := _, pos := _, after := _, guard := _ } :: _) _ _); refine bxA _ rfl 28 _ rfl _ rfl ?_; intro g3 w3 hg hs1 k1 e1; have Y1 := Lib.hid k1; have X1 := Lib.hid (X0.out.ext e1); have E1 := Lib.hid (E0.out.trans e1); clear hg hs1 k1 e1 X0 E0)
    | ((with_reducible show wpList _ _ _ ({ dst := some 4, op := Op.alloc 40, type := _, pos := _, after := _, guard := _ } :: _) _ _); refine alA _ rfl 40 rfl _ _ zero_lg ?_; intro g4 w4 hg hs1 k1 e1; have Z4 := Lib.hid k1; have X4 := Lib.hid (X1.out.ext e1); have Y4 := Lib.hid (Y1.out.ext e1); have E4 := Lib.hid (E1.out.trans e1); have G4 := Lib.hid (show w.heap.size ≤ g4 from by have := E1.out.size; omega); obtain ⟨a0, a1⟩ := lg_cells X4.out; obtain ⟨r0, r1, r2, r3, r4, r5⟩ := rc_cells Y4.out; clear hg hs1 k1 e1 X1 Y1 E1))
  refine (HCK.out _ E4.out).mono ?_
  rintro e w5 ⟨rfl, e5⟩
  have X5 := Lib.hid (X4.out.ext e5)
  have Y5 := Lib.hid (Y4.out.ext e5)
  have Z5 := Lib.hid (Z4.out.ext e5)
  have E5 := Lib.hid (E4.out.trans e5)
  clear e5 a0 a1 r0 r1 r2 r3 r4 r5 X4 Y4 Z4 E4 HCK
  obtain ⟨a0, a1⟩ := lg_cells X5.out
  obtain ⟨r0, r1, r2, r3, r4, r5⟩ := rc_cells Y5.out
  clear HCL
  go_wp2_with (first
    | ((with_reducible show wpList _ _ _ ({ dst := none, op := Op.store 40 _ _, type := _, pos := _, after := _, guard := _ } :: _) _ _); refine stA _ rfl 40 40 _ _ rfl g4 _ #[.int .u64 0, .slice none 0 0] rfl rfl Z5.out size_lg rfl (lg_one 0 none 0 0) ?_; intro w6 hs k4 g6; have Z6 := Lib.hid k4; have E6 := Lib.hid (E5.out.grown g6 (fun k hk => by injection hk with hk; have := G4.out; omega)); clear hs k4 g6))
  exact ret_rowT Tryd.results34 g4 _ _ _ _ rfl rfl Z6.out Tryd.underlying40 rfl size_lg ⟨none, 0, [], rfl, rfl, OwnL.nil _ _, E6.out⟩
end Go.Proofs.YtkbjnlbbfapgdaaDoor

namespace Go.Proofs.YtkbjnlbbfapgdaaDoor
open Go.RowKit

/-- records, one behind the other, up to the first that may not come -/
def foldLg (seq : Nat) (l : List Ac) : List Rc → Nat × List Ac × Nat
  | [] => (seq, l, 0)
  | r :: rs => if chkL seq l r = 0 then ((foldLg r.seq (comL l r) rs).1, (foldLg r.seq (comL l r) rs).2.1, (foldLg r.seq (comL l r) rs).2.2 + 1) else (seq, l, 0)
def rcs (r : Rc) : List Value := [.int .u64 r.seq, .int .i64 r.kind, .string r.ten, .int .u64 r.lease, .int .u64 r.n, .int .u64 r.bits]
theorem zero_rc : (Tryd.prog.info? 28).map (fun i => (i.zero, i.size)) = some (some (.agg #[.int .u64 0, .int .i64 0, .string ByteArray.empty, .int .u64 0, .int .u64 0, .int .u64 0]), 6) := by kernel_rfl
theorem size_rc : (Tryd.prog.info? 28).map (·.size) = some 6 := by kernel_rfl
theorem rcs_len (r : Rc) : (rcs r).length = 6 := rfl
theorem rc_one (r : Rc) : ∀ v ∈ rcV r, v.oneCell' = true := by
  intro v hv
  simp [rcV] at hv
  rcases hv with rfl | rfl | rfl | rfl | rfl | rfl <;> rfl
theorem RdE.sixR {w : World} {A : Option Addr} {xs : List Rc} (h : RdE rcs w A xs) {i : Nat} (hi : i < xs.length) : ∃ ad, A = some ad ∧ w.cell? (ad.add (i * 6)) = some (.int .u64 xs[i].seq) ∧ w.cell? ⟨(ad.add (i * 6)).block, (ad.add (i * 6)).off + 1, none⟩ = some (.int .i64 xs[i].kind) ∧ w.cell? ⟨(ad.add (i * 6)).block, (ad.add (i * 6)).off + 2, none⟩ = some (.string xs[i].ten) ∧
    w.cell? ⟨(ad.add (i * 6)).block, (ad.add (i * 6)).off + 3, none⟩ = some (.int .u64 xs[i].lease) ∧ w.cell? ⟨(ad.add (i * 6)).block, (ad.add (i * 6)).off + 4, none⟩ = some (.int .u64 xs[i].n) ∧ w.cell? ⟨(ad.add (i * 6)).block, (ad.add (i * 6)).off + 5, none⟩ = some (.int .u64 xs[i].bits) := by
  obtain ⟨ad, ha, hc⟩ := RdE.at_ rcs_len h hi (by decide)
  refine ⟨ad, ha, hc 0 _ rfl, ?_, ?_, ?_, ?_, ?_⟩
  · rw [← add_off _ 1 (by decide)]; exact hc 1 _ rfl
  · rw [← add_off _ 2 (by decide)]; exact hc 2 _ rfl
  · rw [← add_off _ 3 (by decide)]; exact hc 3 _ rfl
  · rw [← add_off _ 4 (by decide)]; exact hc 4 _ rfl
  · rw [← add_off _ 5 (by decide)]; exact hc 5 _ rfl
theorem com_lens {l : List Ac} {r : Rc} {m : Nat} (h : ∀ a ∈ l, a.ls.length ≤ m ∧ a.cl.length ≤ m) : ∀ a ∈ comL l r, a.ls.length ≤ m + 1 ∧ a.cl.length ≤ m + 1 := by
  intro a ha
  rcases put_mem ha with rfl | ha
  · have h1 := appA_lens (accOf l r.ten) r
    rcases acc_mem l r.ten with h2 | h2
    · have := h _ h2; omega
    · rw [h2] at h1 ⊢
      have e1 : (acNone r.ten).ls.length = 0 := rfl
      have e2 : (acNone r.ten).cl.length = 0 := rfl
      omega
  · have := h a ha; omega
theorem com_len1 (l : List Ac) (r : Rc) : (comL l r).length ≤ l.length + 1 := by unfold comL; rw [put_len]; split <;> omega

set_option maxHeartbeats 8000000 in
theorem lgfold_calls (seq : Nat) (A : Option Addr) (c : Nat) (xs : List Ax) (R : Option Addr) (rc : Nat) (rs : List Rc) (w : World) (hb : RdL w A xs) (hok : ∀ x ∈ xs, x.a.ok) (hl : xs.length ≤ 100) (hr : Rises (acs xs)) (hs : seq < 18446744073709551616)
    (hn : ∀ x ∈ xs, x.a.ls.length ≤ 1000 ∧ x.a.cl.length ≤ 1000) (hR : RdE rcs w R rs) (hrs : ∀ r ∈ rs, r.ok ∧ r.ten.size ≤ 1000000) (hrl : rs.length ≤ 1000) (hL : Laid w) :
    Calls Tryd.prog 41 #[lgA seq A xs.length c, .slice R rs.length rc] w (fun e w' => ∃ A' c', ∃ ys : List Ax, e = .returned (.tuple #[(.agg #[.int .u64 (foldLg seq (acs xs) rs).1, .slice A' ys.length c']), .int .i64 ((foldLg seq (acs xs) rs).2.2 : Nat)]) ∧ acs ys = (foldLg seq (acs xs) rs).2.1 ∧ OwnL w' w.heap.size A' c' ys ∧ Ext w w') := by
  have HL := Lib.hid hL
  have LT1 := Lib.hid hL.lt
  have HR := Lib.hid hR
  have HRS := Lib.hid hrs
  have HCL : Hid (∀ W, Ext w W → Calls Tryd.prog 47 #[(.agg #[.int .u64 seq, .slice A xs.length c])] W (fun e w' => ∃ A' c', ∃ ys : List Ax, e = .returned ((.agg #[.int .u64 seq, .slice A' ys.length c'])) ∧ acs ys = acs xs ∧ OwnL w' W.heap.size A' c' ys ∧ Ext W w')) := fun W e => lgclone_calls seq A c xs W (hb.ext e) hok (by omega)
  have HRI := Lib.hid hr
  have HN : Hid (∀ a ∈ acs xs, a.ls.length ≤ 1000 ∧ a.cl.length ≤ 1000) := fun a ha => by
    obtain ⟨x, hx, rfl⟩ := List.mem_map.1 ha
    exact hn x hx
  have HXL : Hid ((acs xs).length ≤ 100) := by show _ ≤ _; simpa using hl
  clear hb hok hr hn hR hrs hL hl
  generalize acs xs = l0 at *
  obtain ⟨F, hF⟩ : ∃ F, F = foldLg seq l0 rs := ⟨_, rfl⟩
  rw [← hF]
  have HFF := Lib.hid hF
  clear hF
  unfold lgA
  go_enter Tryd.func41, Tryd.ntmps41
  go_wp2_with (first
    | ((with_reducible show wpList _ _ _ ({ dst := some 2, op := Op.box 40 _, type := _, pos := _, after := _, guard := _ } :: _) _ _); refine bxA _ rfl 40 _ rfl _ rfl ?_; intro g2 w1 hg hs1 k1 e1; have X1 := Lib.hid k1; have E1 := Lib.hid e1; have G2 := Lib.hid (Nat.le_of_eq hg); clear hg hs1 k1 e1)
    | ((with_reducible show wpList _ _ _ ({ dst := some 4, op := Op.alloc 40, type := _, pos := _, after := _, guard := _ } :: _) _ _); refine alA _ rfl 40 rfl _ _ zero_lg ?_; intro g4 w4 hg hs1 k1 e1; have Z4 := Lib.hid k1; have X4 := Lib.hid (X1.out.ext e1); have E4 := Lib.hid (E1.out.trans e1); have G4 := Lib.hid (show w.heap.size ≤ g4 ∧ g2 < g4 from ⟨by have := E1.out.size; omega, by have := X1.out.lt; omega⟩); obtain ⟨a0, a1⟩ := lg_cells X4.out; clear hg hs1 k1 e1 X1 E1)
    | (go_at_call 47; refine (HCL.out _ E4.out).mono ?_; rintro e w5 ⟨A5, c5, ys0, rfl, hy5, o5, e5⟩; have HY5 := Lib.hid hy5; have O5 := Lib.hid o5; have X5 := Lib.hid (X4.out.ext e5); have Z5 := Lib.hid (Z4.out.ext e5); have E5 := Lib.hid (E4.out.trans e5); have B5 : Hid (g2 < w4.heap.size ∧ g4 < w4.heap.size ∧ w4.heap.size ≤ w5.heap.size ∧ w.heap.size ≤ w4.heap.size) := ⟨X4.out.lt, Z4.out.lt, e5.size, E4.out.size⟩; clear hy5 o5 e5 a0 a1 HCL)
    | ((with_reducible show wpList _ _ _ ({ dst := none, op := Op.store 40 (Operand.tmp 2) _, type := _, pos := _, after := _, guard := _ } :: _) _ _); refine stA _ rfl 40 40 _ _ rfl g2 _ #[.int .u64 seq, .slice A5 ys0.length c5] rfl rfl X5.out size_lg rfl (lg_one _ _ _ _) ?_; intro w6 hs6 k6 g6; have X6 := Lib.hid k6; have Z6 := Lib.hid (Z5.out.grown g6 (by have := G4.out.2; intro hh; injection hh; omega)); have E6 := Lib.hid (E5.out.grown g6 (fun k hk => by injection hk with hk; have := G2.out; omega)); have O6 := Lib.hid (O5.out.keep g6 (O5.out.off (.inl B5.out.1))); have S6 := Lib.hid hs6; clear hs6 k6 g6))
  obtain ⟨b, hbb⟩ : ∃ b, b = w4.heap.size := ⟨_, rfl⟩
  have BB : Hid (g2 < b ∧ g4 < b ∧ b ≤ w6.heap.size ∧ w.heap.size ≤ b) := ⟨by have := B5.out; omega, by have := B5.out; omega, by have := B5.out; have := S6.out; omega, by have := B5.out; omega⟩
  rw [← hbb] at O6
  clear hbb B5 O5 X5 Z5 E5 X4 Z4 E4 S6
  have HS := Lib.hid hs
  have HRL := Lib.hid hrl
  have HF0 : Hid (F = foldLg seq (acs ys0) (rs.drop 0)) := by show _ = _; rw [HY5.out, HFF.out, List.drop_zero]
  clear hs hrl
  go_loopw [6, 12] (fun _ i wr => ∃ k sq A' c', ∃ ys : List Ax, k ≤ rs.length ∧ i = .int .i64 (k : Nat) ∧ sq < 18446744073709551616 ∧ F = ((foldLg sq (acs ys) (rs.drop k)).1, (foldLg sq (acs ys) (rs.drop k)).2.1, (foldLg sq (acs ys) (rs.drop k)).2.2 + k) ∧ Rises (acs ys) ∧ (∀ a ∈ acs ys, a.ls.length ≤ 1000 + k ∧ a.cl.length ≤ 1000 + k) ∧ (acs ys).length ≤ 100 + k ∧
    Arr wr g2 40 #[.int .u64 sq, .slice A' ys.length c'] ∧ Arr wr g4 40 #[.int .u64 0, .slice none 0 0] ∧ OwnL wr b A' c' ys ∧ Ext w wr ∧ w6.heap.size ≤ wr.heap.size) (fun _ i _ => rs.length - (intOf i).toNat)
  case atStart => exact ⟨0, seq, A5, c5, ys0, Nat.zero_le _, rfl, HS.out, by rw [HF0.out]; rfl, by rw [HY5.out]; exact HRI.out, by rw [HY5.out]; exact HN.out, by rw [HY5.out]; exact HXL.out, X6.out, Z6.out, O6.out, E6.out, Nat.le_refl _⟩
  case round =>
    obtain ⟨k, sq, A', c', ys, hk, rfl, hsq, hF, hri, hln, hxl, x0', z0', o0', e0', s0'⟩ := hrel
    have HF := Lib.hid hF
    have HRI0 := Lib.hid hri
    have HLN := Lib.hid hln
    have HXL0 := Lib.hid hxl
    have X0 := Lib.hid x0'
    have Z0 := Lib.hid z0'
    have O0 := Lib.hid o0'
    have E0 := Lib.hid e0'
    have S0 := Lib.hid s0'
    have HSQ := Lib.hid hsq
    clear hF hri hln hxl x0' z0' o0' e0' s0' hsq HF0 X6 Z6 O6 E6 HN HXL HRI
    by_cases hlt : k < rs.length
    · obtain ⟨ad, rfl, r0, r1, r2, r3, r4, r5⟩ := (HR.out.ext E0.out).sixR hlt
      have hrk := HRS.out _ (List.getElem_mem hlt)
      have HD := Lib.hid (drop_cons hlt)
      have k1 : (k : Int) < (rs.length : Int) := by omega
      have hkr : k + 1 ≤ 1000 := by have := HRL.out; omega
      generalize rs[k] = r at *
      have HRK := Lib.hid hrk
      clear hrk
      have hylen : ys.length ≤ 1100 := by have := HXL0.out; simp at this; omega
      have HCK : Hid (∀ W, Ext wr W → Calls Tryd.prog 36 #[(.agg #[.int .u64 sq, .slice A' ys.length c']), (.agg #[.int .u64 r.seq, .int .i64 r.kind, .string r.ten, .int .u64 r.lease, .int .u64 r.n, .int .u64 r.bits])] W (RetV W (.int .i64 (chkL sq (acs ys) r)))) := fun W e => lgcheck_calls sq A' c' ys r W (O0.out.rdl.ext e) (fun x hx => (O0.out.2 x hx).2.1) (by omega) HRI0.out HRK.out.1 HRK.out.2 HSQ.out
      by_cases hc : chkL sq (acs ys) r = 0
      · have HCO : Hid (∀ W, Ext wr W → Calls Tryd.prog 83 #[(.agg #[.int .u64 sq, .slice A' ys.length c']), (.agg #[.int .u64 r.seq, .int .i64 r.kind, .string r.ten, .int .u64 r.lease, .int .u64 r.n, .int .u64 r.bits])] W (fun e w' => ∃ A8 c8, ∃ zs : List Ax, e = .returned ((.agg #[.int .u64 r.seq, .slice A8 zs.length c8])) ∧ acs zs = comL (acs ys) r ∧ OwnL w' b A8 c8 zs ∧ W.grownBy w' (blk A') ∧ (blk A8 = blk A' ∨ ∃ g, blk A8 = some g ∧ W.heap.size ≤ g))) := fun W e =>
          come_calls sq A' c' ys r W b (O0.out.ext e) (by have := BB.out; have := S0.out; have := e.size; omega) (by omega) HRI0.out HRK.out.1 HRK.out.2 HSQ.out hc (fun x hx => by have := HLN.out x.a (List.mem_map_of_mem hx); omega) (HL.out.ext (E0.out.trans e)) (by have := LT1.out; have := BB.out; omega)
        have HF1 : Hid (F = ((foldLg r.seq (comL (acs ys) r) (rs.drop (k + 1))).1, (foldLg r.seq (comL (acs ys) r) (rs.drop (k + 1))).2.1, (foldLg r.seq (comL (acs ys) r) (rs.drop (k + 1))).2.2 + (k + 1))) := by
          show _ = _
          rw [HF.out, HD.out]
          simp only [foldLg]
          rw [if_pos hc]
          simp only [Prod.mk.injEq, true_and]
          omega
        rw [hc] at HCK
        clear hc
        go_wp2_with (first
          | ((with_reducible show wpList _ _ _ ({ dst := some 7, op := Op.alloc 28, type := _, pos := _, after := _, guard := _ } :: _) _ _); refine alA _ rfl 28 rfl _ _ zero_rc ?_; intro g7 w7 hg hs1 k3 e3; have Y7 := Lib.hid k3; have T7 := Lib.hid e3; have G7 := Lib.hid (Nat.le_of_eq hg); clear hg hs1 k3 e3 r0 r1 r2 r3 r4 r5)
          | ((with_reducible show wpList _ _ _ ({ dst := none, op := Op.store 28 _ _, type := _, pos := _, after := _, guard := _ } :: _) _ _); refine stA _ rfl 28 28 _ _ rfl g7 _ (rcV r) rfl rfl Y7.out size_rc rfl (rc_one _) ?_; intro w8 hs8 k8 g8; have Y8 := Lib.hid k8; have T8 := Lib.hid (T7.out.grown g8 (fun q hq => by injection hq with hq; have := G7.out; omega)); obtain ⟨r0, r1, r2, r3, r4, r5⟩ := rc_cells k8; obtain ⟨a0, a1⟩ := lg_cells (X0.out.ext T8.out); clear hs8 k8 g8)
          | (go_at_call 36; refine (HCK.out _ T8.out).mono ?_; rintro e w9 ⟨rfl, e9⟩; have T9 := Lib.hid (T8.out.trans e9); have Y9 := Lib.hid (Y8.out.ext e9); clear e9 a0 a1 r0 r1 r2 r3 r4 r5; obtain ⟨r0, r1, r2, r3, r4, r5⟩ := rc_cells Y9.out; obtain ⟨a0, a1⟩ := lg_cells (X0.out.ext T9.out))
          | (go_at_call 83; refine (HCO.out _ T9.out).mono ?_; rintro e w10 ⟨A8, c8, zs, rfl, hz, o10, g10, b10⟩; have O10 := Lib.hid o10; have HZ := Lib.hid hz; have X10 := Lib.hid ((X0.out.ext T9.out).off g10 (fun q hq => by have := (O0.out.1.base_ q hq).1; have := BB.out; omega)); have Z10 := Lib.hid ((Z0.out.ext T9.out).off g10 (fun q hq => by have := (O0.out.1.base_ q hq).1; have := BB.out; omega)); have E10 := Lib.hid ((E0.out.trans T9.out).grown g10 (fun q hq => by have := (O0.out.1.base_ q hq).1; have := BB.out; omega)); have S10 : Hid (w6.heap.size ≤ w10.heap.size) := Nat.le_trans S0.out (Nat.le_trans T9.out.size g10.size); clear hz o10 g10 b10 a0 a1 r0 r1 r2 r3 r4 r5)
          | ((with_reducible show wpList _ _ _ ({ dst := none, op := Op.store 40 (Operand.tmp 2) _, type := _, pos := _, after := _, guard := _ } :: _) _ _); refine stA _ rfl 40 40 _ _ rfl g2 _ #[.int .u64 r.seq, .slice A8 zs.length c8] rfl rfl X10.out size_lg rfl (lg_one _ _ _ _) ?_; intro w11 hs11 k11 g11; have X11 := Lib.hid k11; have Z11 := Lib.hid (Z10.out.grown g11 (by have := G4.out.2; intro hh; injection hh; omega)); have E11 := Lib.hid (E10.out.grown g11 (fun q hq => by injection hq with hq; have := G2.out; omega)); have O11 := Lib.hid (O10.out.keep g11 (O10.out.off (.inl BB.out.1))); have S11 : Hid (w6.heap.size ≤ w11.heap.size) := Nat.le_trans S10.out (Nat.le_of_eq hs11.symm); clear hs11 k11 g11))
        go_roundw
        case rel => exact ⟨k + 1, r.seq, A8, c8, zs, by omega, by go_num, HRK.out.1.1, by rw [HZ.out]; exact HF1.out, by rw [HZ.out]; exact com_rises HRI0.out r, by rw [HZ.out]; exact fun a ha => by have := com_lens HLN.out a ha; omega, by rw [HZ.out]; have := com_len1 (acs ys) r; have := HXL0.out; omega, X11.out, Z11.out, O11.out, E11.out, S11.out⟩
        case measure => simp [intOf]; omega
      · have HF1 : Hid (F = (sq, acs ys, k)) := by
          show _ = _
          rw [HF.out, HD.out]
          simp only [foldLg]
          rw [if_neg hc]
          simp
        have q0 : (chkL sq (acs ys) r != 0) = true := by simpa using hc
        clear hc
        generalize chkL sq (acs ys) r = V at *
        go_wp2_with (first
          | ((with_reducible show wpList _ _ _ ({ dst := some 7, op := Op.alloc 28, type := _, pos := _, after := _, guard := _ } :: _) _ _); refine alA _ rfl 28 rfl _ _ zero_rc ?_; intro g7 w7 hg hs1 k3 e3; have Y7 := Lib.hid k3; have T7 := Lib.hid e3; have G7 := Lib.hid (Nat.le_of_eq hg); clear hg hs1 k3 e3 r0 r1 r2 r3 r4 r5)
          | ((with_reducible show wpList _ _ _ ({ dst := none, op := Op.store 28 _ _, type := _, pos := _, after := _, guard := _ } :: _) _ _); refine stA _ rfl 28 28 _ _ rfl g7 _ (rcV r) rfl rfl Y7.out size_rc rfl (rc_one _) ?_; intro w8 hs8 k8 g8; have Y8 := Lib.hid k8; have T8 := Lib.hid (T7.out.grown g8 (fun q hq => by injection hq with hq; have := G7.out; omega)); obtain ⟨r0, r1, r2, r3, r4, r5⟩ := rc_cells k8; obtain ⟨a0, a1⟩ := lg_cells (X0.out.ext T8.out); clear hs8 k8 g8)
          | (go_at_call 36; refine (HCK.out _ T8.out).mono ?_; rintro e w9 ⟨rfl, e9⟩; have T9 := Lib.hid (T8.out.trans e9); clear e9 a0 a1 r0 r1 r2 r3 r4 r5; obtain ⟨a0, a1⟩ := lg_cells (X0.out.ext T9.out); have Z9 := Lib.hid (Z0.out.ext T9.out); have O9 := Lib.hid (O0.out.ext T9.out); have E9 := Lib.hid (E0.out.trans T9.out))
          | ((with_reducible show wpList _ _ _ ({ dst := none, op := Op.store 40 (Operand.tmp 4) _, type := _, pos := _, after := _, guard := _ } :: _) _ _); refine stA _ rfl 40 40 _ _ rfl g4 _ #[.int .u64 sq, .slice A' ys.length c'] rfl rfl Z9.out size_lg rfl (lg_one _ _ _ _) ?_; intro w11 hs11 k11 g11; have Z11 := Lib.hid k11; have E11 := Lib.hid (E9.out.grown g11 (fun q hq => by injection hq with hq; have := G4.out; omega)); have O11 := Lib.hid (O9.out.keep g11 (O9.out.off (.inl BB.out.2.1))); clear hs11 k11 g11))
        exact ret_rowT Tryd.results41 g4 _ _ _ _ rfl rfl Z11.out Tryd.underlying40 rfl size_lg ⟨A', c', ys, by have h := HF1.out; subst h; rfl, by have h := HF1.out; subst h; rfl, O11.out.lower BB.out.2.2.2, E11.out⟩
    · obtain rfl : k = rs.length := by omega
      have HF1 : Hid (F = (sq, acs ys, rs.length)) := by
        show _ = _
        rw [HF.out, List.drop_of_length_le (Nat.le_refl _)]
        simp [foldLg]
      obtain ⟨a0, a1⟩ := lg_cells X0.out
      go_wp2_with (first
        | ((with_reducible show wpList _ _ _ ({ dst := none, op := Op.store 40 (Operand.tmp 4) _, type := _, pos := _, after := _, guard := _ } :: _) _ _); refine stA _ rfl 40 40 _ _ rfl g4 _ #[.int .u64 sq, .slice A' ys.length c'] rfl rfl Z0.out size_lg rfl (lg_one _ _ _ _) ?_; intro w11 hs11 k11 g11; have Z11 := Lib.hid k11; have E11 := Lib.hid (E0.out.grown g11 (fun q hq => by injection hq with hq; have := G4.out; omega)); have O11 := Lib.hid (O0.out.keep g11 (O0.out.off (.inl BB.out.2.1))); clear hs11 k11 g11))
      exact ret_rowT Tryd.results41 g4 _ _ _ _ rfl rfl Z11.out Tryd.underlying40 rfl size_lg ⟨A', c', ys, by have h := HF1.out; subst h; rfl, by have h := HF1.out; subst h; rfl, O11.out.lower BB.out.2.2.2, E11.out⟩
end Go.Proofs.YtkbjnlbbfapgdaaDoor

namespace Go.Proofs.YtkbjnlbbfapgdaaDoor
open Go.RowKit Go.ChangeShapes Go.WideShapes Go.ChangeAt Go.Deep

theorem c_acl : Tryd.prog.cellsOf 38 = 1 := by kernel_rfl
theorem c_lg : Tryd.prog.cellsOf 40 = 2 := by kernel_rfl
instance : Inhabited Ax := ⟨⟨⟨ByteArray.empty, 0, 0, 0, 0, [], []⟩, none, 0, none, 0⟩⟩
section gen
variable {H : Type} {enc : TypeId × Value → H} {w : World}
theorem cells_lg (m : Nat) (cs : List Value) (x : DataW H × List MemPlace) (hl : cs.length = 2) (h : DataW.trod enc Tryd.prog w 0 (fun _ => true) true m 40 cs = some x) : ∃ (seq : Nat), ∃ A c, ∃ xs : List Ax, cs = [.int .u64 seq, .slice A xs.length c] ∧ seq < 18446744073709551616 ∧ RdL w A xs ∧ xs.length ≤ c ∧ c ≤ 9223372036854775807 ∧ (A = none → c = 0) := by
  obtain ⟨xs, m, _, _, _, hxl, hx⟩ := DataW.trod_struct Tryd.underlying40 h
  have hxl' : xs.length = 2 := hxl
  match cs, hl with
  | [a0, a1], _ =>
    have g0 := hx 0 _ rfl
    have g1 := hx 1 _ rfl
    simp only [List.getElem_toArray, List.getElem_cons_zero, List.getElem_cons_succ, c_u64, c_acl, List.drop_zero, List.drop_succ_cons, List.take_succ_cons, List.take_zero] at g0 g1
    rw [List.getElem?_eq_getElem (by omega)] at g0 g1
    obtain ⟨z0, e0, _, w0⟩ := DataW.trod_int Tryd.underlying22 g0
    obtain ⟨A, c, ys, e1, r1, r2, r3, r4, r5⟩ := cells_elems Ax.cs (fun y => y.in_ w) Ax.cs_len (by decide) Tryd.underlying38 c_acct (fun m cs x hl h => by
      obtain ⟨a, AL, cL, AC, cC, hcs, hi⟩ := cells_ac m cs x hl h
      exact ⟨⟨a, AL, cL, AC, cC⟩, by rw [hcs]; rfl, hi⟩) g1
    simp only [List.cons.injEq, and_true] at e0 e1
    subst e0 e1
    obtain ⟨n0, rfl, h0⟩ := u64_nat w0
    exact ⟨n0, A, c, ys, rfl, h0, ⟨r1, r2⟩, r3, r4, r5⟩
variable {b0 : Nat} {v : Value} {d : DataW H} {p : List MemPlace}
theorem arg_lg (o : Value.okWide Tryd.prog w .any b0 40 v) (h : DataW.Trod enc Tryd.prog w 0 (fun _ => true) true 40 v d p) : ∃ (seq : Nat), ∃ A c, ∃ xs : List Ax, v = .agg #[.int .u64 seq, .slice A xs.length c] ∧ seq < 18446744073709551616 ∧ RdL w A xs ∧ xs.length ≤ c ∧ c ≤ 9223372036854775807 ∧ (A = none → c = 0) := by
  obtain ⟨cs, rfl, hsz⟩ := okWide_struct Tryd.underlying40 o
  obtain ⟨fuel, hf⟩ := h
  obtain ⟨seq, A, c, xs, hcs, r⟩ := cells_lg _ _ _ (by have := hsz.trans c_lg; simpa [Value.cells] using this) hf
  refine ⟨seq, A, c, xs, ?_, r⟩
  congr 1
  apply Array.toList_inj.1
  simpa [Value.cells] using hcs
theorem arg_str (o : Value.okWide Tryd.prog w .any b0 9 v) : ∃ s, v = .string s := okWide_string Tryd.underlying9 o
end gen
end Go.Proofs.YtkbjnlbbfapgdaaDoor

namespace Go.Proofs.YtkbjnlbbfapgdaaDoor
open Go.RowKit

def awR : List Rc := [⟨1, 1, ⟨#[98]⟩, 0, 1, 0⟩, ⟨2, 1, ⟨#[97]⟩, 0, 2, 0⟩]
theorem aw_fold : foldLg 0 [] awR = (2, [⟨⟨#[97]⟩, 2, 0, 0, 0, [], []⟩, ⟨⟨#[98]⟩, 1, 0, 0, 0, [], []⟩], 2) := by kernel_rfl
theorem awR_ok : ∀ r ∈ awR, r.ok ∧ r.ten.size ≤ 1000000 := by
  intro r hr
  simp only [awR, List.mem_cons, List.not_mem_nil, or_false] at hr
  rcases hr with rfl | rfl <;> exact ⟨by unfold Rc.ok; decide, by decide⟩
theorem largeL_ok {w : World} {A : Option Addr} {xs : List Ax} (h : largeL (acs xs) = false) (hi : RdL w A xs) : xs.length ≤ 12 ∧ ∀ x ∈ xs, x.a.ok ∧ x.a.ls.length ≤ 40 ∧ x.a.cl.length ≤ 40 ∧ x.a.ten.size ≤ 100 := by
  unfold largeL at h
  rw [Bool.or_eq_false_iff, decide_eq_false_iff_not, acs_len] at h
  obtain ⟨h1, h2⟩ := h
  refine ⟨by omega, fun x hx => ?_⟩
  rw [List.take_of_length_le (by rw [acs_len]; omega)] at h1
  have := List.any_eq_false.1 h1 x.a (List.mem_map_of_mem hx)
  exact largeB_ok (by simpa using this) (hi.each x hx)

set_option maxHeartbeats 8000000 in
theorem awake16 (w : World) (hL : Laid w) : Calls Tryd.prog 33 #[] w (RetV w (.bool true)) := by
  have HL := Lib.hid hL
  have HFO : Hid (∀ W h, Ext w W → RdE rcs W (some ⟨h, 0, none⟩) awR → Calls Tryd.prog 41 #[(.agg #[.int .u64 0, .slice none 0 0]), .slice (some ⟨h, 0, none⟩) 2 2] W (fun e w' => ∃ A' c', ∃ ys : List Ax, e = .returned (.tuple #[(.agg #[.int .u64 2, .slice A' 2 c']), .int .i64 2]) ∧ ys.length = 2 ∧ acs ys = [⟨⟨#[97]⟩, 2, 0, 0, 0, [], []⟩, ⟨⟨#[98]⟩, 1, 0, 0, 0, [], []⟩] ∧ OwnL w' W.heap.size A' c' ys ∧ Ext W w')) := fun W h e hR => by
    refine (lgfold_calls 0 none 0 [] (some ⟨h, 0, none⟩) 2 awR W ⟨RdE.nil, by simp⟩ (by simp) (by simp) (by simp [acs, Rises]) (by decide) (by simp) hR awR_ok (by decide) (HL.out.ext e)).mono ?_
    rintro e' w' ⟨A', c', ys, h1, h2, h3, h4⟩
    have e0 : foldLg 0 (acs []) awR = (2, [⟨⟨#[97]⟩, 2, 0, 0, 0, [], []⟩, ⟨⟨#[98]⟩, 1, 0, 0, 0, [], []⟩], 2) := aw_fold
    rw [e0] at h1 h2
    have hl : ys.length = 2 := by have := congrArg List.length h2; simpa using this
    exact ⟨A', c', ys, by rw [h1, hl]; rfl, hl, h2, h3, h4⟩
  clear hL
  go_enter Tryd.func33, Tryd.ntmps33
  go_upto_region 2 with (first
    | (go_at_call 41; refine (HFO.out _ w.heap.size ((Ext.refl _).alloc _) (Arr.rd (Arr.new w 28 #[.int .u64 1, .int .i64 1, .string ⟨#[98]⟩, .int .u64 0, .int .u64 1, .int .u64 0, .int .u64 2, .int .i64 1, .string ⟨#[97]⟩, .int .u64 0, .int .u64 2, .int .u64 0]))).mono ?_; rintro e w3 ⟨A3, c3, ys, rfl, hyl, hya, o3, e3⟩; have HYL := Lib.hid hyl; have HYA := Lib.hid hya; have O3 := Lib.hid o3; have E3 := Lib.hid (((Ext.refl w).alloc _).trans e3); clear hyl hya o3 e3)
    | ((with_reducible show wpList _ _ _ ({ dst := some 1, op := Op.alloc 40, type := _, pos := _, after := _, guard := _ } :: _) _ _); refine alA _ rfl 40 rfl _ _ zero_lg ?_; intro g1 w4 hg hs1 k1 e1; have Z4 := Lib.hid k1; have O4 := Lib.hid (O3.out.ext e1); have E4 := Lib.hid (E3.out.trans e1); have F4 := Lib.hid (O3.out.off (g := g1) (.inr (Nat.le_of_eq hg))); have G4 := Lib.hid (show w.heap.size ≤ g1 from by have := E3.out.size; omega); clear hg hs1 k1 e1)
    | ((with_reducible show wpList _ _ _ ({ dst := none, op := Op.store 40 _ _, type := _, pos := _, after := _, guard := _ } :: _) _ _); refine stA _ rfl 40 40 _ _ rfl g1 _ #[.int .u64 2, .slice A3 2 c3] rfl rfl Z4.out size_lg rfl (lg_one 2 _ 2 _) ?_; intro w5 hs5 k5 g5; have O5 := Lib.hid (O4.out.keep g5 F4.out); have E5 := Lib.hid (E4.out.grown g5 (fun q hq => by injection hq with hq; have := G4.out; omega)); have K5 := Lib.hid k5; clear hs5 k5 g5))
  obtain ⟨a0, a1⟩ := lg_cells (seq := 2) (n := 2) K5.out
  have h0 : 0 < ys.length := by have := HYL.out; omega
  obtain ⟨g, cur, hA, _, _, _⟩ := O5.out.row h0
  subst hA
  obtain ⟨ad, hA2, x0, _⟩ := O5.out.rdl.rd.seven h0
  injection hA2 with hA2
  subst hA2
  simp only [add_mk, Nat.zero_mul, Nat.zero_add] at x0
  have hx : ys[0].a.ten = ⟨#[97]⟩ := by
    have h := congrArg (fun l => l[0]?) HYA.out
    simp only [List.getElem?_map, List.getElem?_eq_getElem h0, Option.map_some, List.getElem?_cons_zero, Option.some.injEq] at h
    rw [h]
  rw [hx] at x0
  have q : ((⟨#[97]⟩ : ByteArray).toList == (⟨#[97]⟩ : ByteArray).toList) = true := by rw [str_beq]; exact decide_eq_true rfl
  clear hx
  go_wp2_with fail
  go_ret
  exact ⟨rfl, E5.out⟩
end Go.Proofs.YtkbjnlbbfapgdaaDoor

