/- slices.Insert of one ghost (LedI's lines, five cells). -/
import Derived.Test.YtlgngnkaiidbeaaGhostA
import Derived.Test.YtlgngnkaiidbeaaArrE
import Derived.Lib.AppendZerosOnto
import Derived.Lib.Overlaps
import Derived.Shelf.Spec.SlicesInsert
set_option maxRecDepth 100000
set_option linter.unusedVariables false
set_option linter.unusedSimpArgs false
namespace Go.Proofs.Ytlgngnkaiidbeaa
open Go.RowKit

theorem insertIdx_eq {α : Type} (xs : List α) (p : Nat) (x : α) (hp : p ≤ xs.length) : xs.insertIdx p x = xs.take p ++ x :: xs.drop p := by
  induction xs generalizing p with
  | nil => obtain rfl : p = 0 := by simpa using hp
           rfl
  | cons y l ih =>
    cases p with
    | zero => rfl
    | succ p => simp [ih p (by simpa using hp)]
/-- what Insert hands back -/
def RetIn (w : World) (base : Nat) (A : Option Addr) (n : Nat) (cs : List Value) (e : Ending) (w' : World) : Prop :=
  ∃ A' c', e = .returned (.slice A' n c') ∧ OwnV w' base 50 5 A' n c' cs ∧ w.grownBy w' (blk A) ∧ (blk A' = blk A ∨ ∃ g, blk A' = some g ∧ w.heap.size ≤ g)

set_option maxHeartbeats 8000000 in
theorem insert_end (base : Nat) (A : Option Addr) (c n : Nat) (cs : List Value) (V : List Value) (vb : Nat) (w : World) (O : OwnV w base 50 5 A n c cs) (hv : Arr w vb 50 V.toArray) (hV : V.length = 5) (h1 : ∀ u ∈ V, u.oneCell' = true) (hl : n ≤ 100000) (hb : base ≤ w.heap.size) :
    Calls Try.prog 132 #[.slice A n c, .int .i64 n, .slice (some ⟨vb, 0, none⟩) 1 1] w (RetIn w base A (n + 1) (cs ++ V)) := by
  have HO := Lib.hid O
  have HC : Hid (∀ j u, V[j]? = some u → w.cell? (Addr.add ⟨vb, 0, none⟩ j) = some u) := fun j u hu => by
    rw [add_mk, Nat.zero_add, hv.cell]
    simpa using hu
  have HV := Lib.hid hV
  have H1 := Lib.hid h1
  clear O hv hV h1
  by_cases hcn : c = n
  · have q := Lib.hid hcn
    subst hcn
    go_enter Try.func132, Try.ntmps132
    go_wp2_with (at_builtin; refine appV _ rfl _ _ 46 rfl 50 (.agg (ghV ⟨ByteArray.empty, 0, 0, 0, 0⟩)) 5 48 Try.underlying46 info_gh rfl (by decide) base A c c cs rfl ⟨vb, 0, none⟩ 1 1 V rfl ?_ HO.out (by rw [HV.out]) HC.out H1.out (by omega) (by omega) hb; intro A8 c8 w8 h8 g8 b8; have O8 := Lib.hid h8; have G8 := Lib.hid g8; have B8 := Lib.hid b8; clear h8 g8 b8)
    go_ret
    exact ⟨A8, c8, rfl, O8.out, G8.out, B8.out.imp id (fun h => ⟨_, h, Nat.le_refl _⟩)⟩
  · go_enter Try.func132, Try.ntmps132
    go_wp2_with (at_builtin; refine appV _ rfl _ _ 46 rfl 50 (.agg (ghV ⟨ByteArray.empty, 0, 0, 0, 0⟩)) 5 48 Try.underlying46 info_gh rfl (by decide) base A n c cs rfl ⟨vb, 0, none⟩ 1 1 V rfl ?_ HO.out (by rw [HV.out]) HC.out H1.out (by omega) (by omega) hb; intro A8 c8 w8 h8 g8 b8; have O8 := Lib.hid h8; have G8 := Lib.hid g8; have B8 := Lib.hid b8; clear h8 g8 b8)
    go_ret
    exact ⟨A8, c8, rfl, O8.out, G8.out, B8.out.imp id (fun h => ⟨_, h, Nat.le_refl _⟩)⟩

theorem overlaps_no (w : World) (vb g off lb cb k1 k2 : Nat) (V : Array Value) (C : Array Value) (hv : Arr w vb 50 V) (hg : Arr w g 50 C) (hne : vb ≠ g) (hC : C.size ≠ 0) :
    (callFunc 164 #[.slice (some ⟨vb, 0, none⟩) k1 k2, .slice (some ⟨g, off, none⟩) lb cb]).run Try.prog w = .ok (.value (.bool false)) w := by
  have hsa : w.shape? vb = some (50, V.size) := by unfold Arr at hv; simp [World.shape?, hv]
  have hsb : w.shape? g = some (50, C.size) := by unfold Arr at hg; simp [World.shape?, hg]
  rw [run_callFunc_extern Try.func164 (by kernel_rfl) (by kernel_rfl) (by kernel_rfl) (e := Extern.SlicesOverlaps.overlaps #[46, 46] #[4]) (by kernel_rfl),
    Lib.run_overlaps_apart w 46 4 50 Try.underlying46 5 Try.sizeOf50 ⟨vb, 0, none⟩ ⟨g, off, none⟩ k1 k2 lb cb hne 50 50 V.size C.size hsa hsb hC (hv.frozen 0) (hv.frozen _)]
  rfl

set_option maxHeartbeats 8000000 in
theorem insert_room (base g c n p : Nat) (X Y V : List Value) (vb : Nat) (w : World) (O : OwnV w base 50 5 (some ⟨g, 0, none⟩) n c (X ++ Y)) (hX : X.length = p * 5) (hp : p < n) (hc : n + 1 ≤ c) (hv : Arr w vb 50 V.toArray) (hV : V.length = 5) (h1 : ∀ u ∈ V, u.oneCell' = true) (h2 : ∀ u ∈ Y, u.oneCell' = true) (hne : vb ≠ g) (hl : n ≤ 100000) :
    Calls Try.prog 132 #[.slice (some ⟨g, 0, none⟩) n c, .int .i64 p, .slice (some ⟨vb, 0, none⟩) 1 1] w (RetIn w base (some ⟨g, 0, none⟩) (n + 1) (X ++ V ++ Y)) := by
  have hlen := O.len
  have hcm := O.capmax
  obtain ⟨cur, hb, hcs, hR⟩ : ∃ cur : List Value, base ≤ g ∧ Arr w g 50 cur.toArray ∧ cur.length = c * 5 ∧ ∃ R, cur = X ++ Y ++ R := by
    rcases O.2 with ⟨hv, _⟩ | ⟨g', cap, cur, hv, hb, hh, hc1, hc2, hc3, hc4⟩
    · cases hv
    · injection hv with e1 e2 e3
      injection e1 with e1
      injection e1 with e1
      subst e1 e3
      exact ⟨cur.toList, hb, by simpa [Arr] using hh, by simpa using hc3, cur.toList.drop (n * 5), by rw [← hc4, List.take_append_drop]⟩
  obtain ⟨hcl, R, hR⟩ := hR
  have hYl : Y.length = (n - p) * 5 := by rw [List.length_append] at hlen; omega
  have hRl : 5 ≤ R.length := by
    have := congrArg List.length hR
    simp only [List.length_append] at this
    omega
  have HA := Lib.hid hcs
  have HV := Lib.hid hv
  have HSP : Hid ((splice (splice cur ((p + 1) * 5) Y) (p * 5) V).take ((n + 1) * 5) = X ++ V ++ Y) := by
    have := splice_mid cur X V Y R (p * 5) 5 hX hV hR hRl
    rw [hYl] at this
    rw [show (p + 1) * 5 = p * 5 + 5 by omega, show (n + 1) * 5 = p * 5 + 5 + (n - p) * 5 by omega]
    exact this
  have HCY : Hid (∀ j u, Y[j]? = some u → w.cell? ⟨g, p * 5 + j, none⟩ = some u) := fun j u hu => by
    rw [hcs.cell]
    have hj : j < Y.length := (List.getElem?_eq_some_iff.1 hu).1
    rw [List.getElem?_toArray, hR, List.append_assoc, List.getElem?_append_right (by omega), hX, Nat.add_sub_cancel_left, List.getElem?_append_left hj]
    exact hu
  have H1 := Lib.hid h1
  have H2 := Lib.hid h2
  have HNE := Lib.hid hne
  have HL1 : Hid ((splice cur ((p + 1) * 5) Y).length = c * 5) := by show _ = _; rw [length_splice _ _ _ (by rw [hYl, hcl]; omega)]; exact hcl
  have HL2 : Hid ((splice (splice cur ((p + 1) * 5) Y) (p * 5) V).length = c * 5) := by show _ = _; rw [length_splice _ _ _ (by rw [hV, HL1.out]; omega)]; exact HL1.out
  have HYL := Lib.hid hYl
  have HVL := Lib.hid hV
  have HCL := Lib.hid hcl
  have HB := Lib.hid hb
  have hov : ∀ W, Ext w W → ∀ off lb cb, (callFunc 164 #[.slice (some ⟨vb, 0, none⟩) 1 1, .slice (some ⟨g, off, none⟩) lb cb]).run Try.prog W = .ok (.value (.bool false)) W := fun W e off lb cb =>
    overlaps_no W vb g off lb cb 1 1 _ _ (hv.ext e) (hcs.ext e) hne (by rw [List.size_toArray, hcl]; omega)
  have hov0 := fun off lb cb => hov w (Ext.refl w) off lb cb
  clear O hlen hcs hR hv hX h1 h2 hb hRl hov
  have z1 : ¬ ((p : Int) = (n : Int)) := by omega
  have u1 : IntKind.i64.wrap ((n : Int) + 1) = (n : Int) + 1 := IntWalk.i64_in _ (by omega)
  have u2 : IntKind.i64.wrap ((p : Int) + 1) = (p : Int) + 1 := IntWalk.i64_in _ (by omega)
  have z3 : ¬ ((c : Int) < (n : Int) + 1) := by omega
  have z4 : (n : Int) + 1 ≤ (c : Int) := by omega
  have t1 : ((n : Int) + 1).toNat = n + 1 := by omega
  have t2 : ((p : Int) + 1).toNat = p + 1 := by omega
  have t3 : (0 : Int) ≤ (n : Int) + 1 := by omega
  have t4 : (0 : Int) ≤ (p : Int) + 1 := by omega
  have t5 : (p : Int) + 1 ≤ (n : Int) + 1 := by omega
  have t6 : (p : Int) ≤ (n : Int) + 1 := by omega
  have t7 : ¬ c = p + 1 := by omega
  have t8 : ¬ c = p := by omega
  have t9 : p ≤ n := by omega
  clear hYl hV hcl
  go_enter Try.func132, Try.ntmps132
  go_wp2_with (simp only [hov0])
  refine wp_region_still_tail 8 (by kernel_rfl) (by kernel_rfl) ?_
  simp only [List.take_succ_cons, List.take_zero, List.drop_succ_cons, List.drop_zero]
  change wpStill _ _ w.drew (fun a' => wpList _ _ _ _ a' w.drew) _ _
  have R3 := Lib.hid HA.out.drew
  have V3 := Lib.hid HV.out.drew
  have D3 : Hid (w.grownBy w.drew (some g)) := ⟨rfl, rfl, rfl, Nat.le_refl _, fun _ _ _ => rfl⟩
  have C3 : Hid (∀ j u, Y[j]? = some u → w.drew.cell? (Addr.add ⟨g, p * 5, none⟩ j) = some u) := fun j u hj => by rw [add_mk]; exact HCY.out j u hj
  clear hov0 HA HV HCY
  generalize w.drew = w3 at *
  repeat still_step
  refine wpStill_nil ?_
  go_wp2_with (first
    | ((with_reducible show wpList _ _ _ ({ dst := some 77, op := Op.call { callee := Callee.builtin Builtin.copy, args := _, argTypes := _ }, type := _, pos := _, after := _, guard := _ } :: _) _ _); refine cpV _ rfl (.tmp 73) (.tmp 76) 46 46 rfl 50 5 Try.underlying46 size_gh _ _ _ _ _ _ rfl rfl g ((p + 1) * 5) cur 50 R3.out Y (n - p) (by show min _ _ = _; omega) HYL.out (fun _ => ⟨by first | rfl | (congr 2; omega), _, rfl, C3.out⟩) (by have := HYL.out; have := HCL.out; omega) H2.out ?_; intro w4 k4 g4; have R4 := Lib.hid k4; have V4 := Lib.hid (V3.out.grown g4 (fun e => HNE.out (by injection e))); have D4 := Lib.hid (D3.out.trans g4); clear k4 g4)
    | ((with_reducible show wpList _ _ _ ({ dst := some 82, op := Op.call { callee := Callee.builtin Builtin.copy, args := _, argTypes := _ }, type := _, pos := _, after := _, guard := _ } :: _) _ _); refine cpV _ rfl (.tmp 80) (.tmp 81) 46 46 rfl 50 5 Try.underlying46 size_gh _ _ _ _ _ _ rfl rfl g (p * 5) _ 50 R4.out V 1 (by show min _ _ = _; omega) (by rw [HVL.out]) (fun _ => ⟨rfl, _, rfl, fun j u hj => by rw [add_mk, Nat.zero_add, V4.out.cell]; simpa using hj⟩) (by have := HVL.out; have := HL1.out; omega) H1.out ?_; intro w5 k5 g5; have R5 := Lib.hid k5; have D5 := Lib.hid (D4.out.trans g5); clear k5 g5))
  go_ret
  refine ⟨some ⟨g, 0, none⟩, c, rfl, ⟨?_, .inr ⟨g, c, _, rfl, HB.out, R5.out, by omega, by unfold maxLen; omega, by simpa using HL2.out, ?_⟩⟩, D5.out, .inl rfl⟩
  · have h1 := congrArg List.length HSP.out
    rw [List.length_take, HL2.out] at h1
    simp only [List.append_assoc] at h1 ⊢
    omega
  · have h1 := HSP.out
    simp only [List.append_assoc] at h1 ⊢
    exact h1

theorem Ext.toGrown {w w1 : World} {row : Option Nat} (h : Ext w w1) : w.grownBy w1 row := ⟨Below.os h, Below.tape h, Below.output h, Below.size h, fun i hi _ => Below.block h i hi⟩
set_option maxHeartbeats 8000000 in
theorem insert_grow (base g c n p : Nat) (X Y V : List Value) (vb : Nat) (w : World) (O : OwnV w base 50 5 (some ⟨g, 0, none⟩) n c (X ++ Y)) (hX : X.length = p * 5) (hp : p < n) (hc : c < n + 1) (hv : Arr w vb 50 V.toArray) (hV : V.length = 5) (h1 : ∀ u ∈ V, u.oneCell' = true) (h2 : ∀ u ∈ Y, u.oneCell' = true) (hl : n ≤ 100000) (hbase : base ≤ w.heap.size) :
    Calls Try.prog 132 #[.slice (some ⟨g, 0, none⟩) n c, .int .i64 p, .slice (some ⟨vb, 0, none⟩) 1 1] w (RetIn w base (some ⟨g, 0, none⟩) (n + 1) (X ++ V ++ Y)) := by
  have hlen := O.len
  have hnc := O.cap
  have hrd := O.rd
  have hYl : Y.length = (n - p) * 5 := by rw [List.length_append] at hlen; omega
  have HCX : ∀ (W : World), Ext w W → ∀ j u, (X ++ Y)[j]? = some u → W.cell? (Addr.add ⟨g, 0, none⟩ j) = some u := fun W e j u hu => by
    obtain ⟨ad, h, hcc⟩ := hrd j u hu
    injection h with h
    subst h
    exact e.cell hcc
  obtain ⟨inf, hi0, hz0, hzs, hzb⟩ := info_parts info_gh
  have hold : (Builtin.firstCells inf.size p (.slice (some ⟨g, 0, none⟩) p c)).run Try.prog w.drew = .ok X.toArray w.drew := by
    rw [hzs]
    exact run_firstCells_some w.drew 5 p ⟨g, 0, none⟩ p c X hX (fun j v hj => HCX _ (Ext.refl w).drew j v (by rw [List.getElem?_append_left (List.getElem?_eq_some_iff.1 hj).1]; exact hj))
  obtain ⟨G, hG⟩ : ∃ G, G = grownCap w (n + 1) c 50 := ⟨_, rfl⟩
  obtain ⟨Z1, hZ1⟩ : ∃ Z1 : List Value, Z1 = (Builtin.zeroCells (Value.agg (ghV ⟨ByteArray.empty, 0, 0, 0, 0⟩)).cells (n + 1 - p)).toList := ⟨_, rfl⟩
  obtain ⟨Z2, hZ2⟩ : ∃ Z2 : List Value, Z2 = (Builtin.zeroCells (Value.agg (ghV ⟨ByteArray.empty, 0, 0, 0, 0⟩)).cells (G - (n + 1))).toList := ⟨_, rfl⟩
  have lZ1 : Z1.length = (n + 1 - p) * 5 := by rw [hZ1, Array.length_toList, size_zeroCells]; rfl
  have lZ2 : Z2.length = (G - (n + 1)) * 5 := by rw [hZ2, Array.length_toList, size_zeroCells]; rfl
  have hGn : n + 1 ≤ G := by rw [hG]; exact grownCap_ge w _ _ _
  have hGm : G ≤ 9223372036854775807 := by
    have := grownCap_le_maxLen w (n + 1) c 50 (by unfold maxLen; omega)
    rw [← hG] at this
    unfold maxLen at this
    omega
  have hrz : ∀ ty, (Builtin.append_ #[46, 3] ty #[.slice (some ⟨g, 0, none⟩) p c, .int .i64 ((n : Int) + 1 - (p : Int))]).run Try.prog w =
      .ok (.slice (some ⟨w.heap.size, 0, none⟩) (n + 1) G) (w.drew.alloc (.cells (X ++ Z1 ++ Z2).toArray 50)) := fun ty => by
    have h := Lib.run_append_grow_zeros w 46 3 ty 50 inf _ .i64 .i64 Try.underlying46 Try.underlying3 hi0 hz0 (some ⟨g, 0, none⟩) p c X hold (n + 1 - p) (by omega) (by omega) (by omega) (by omega) (by rw [hzb]; omega) (by rw [hzb, show p + (n + 1 - p) = n + 1 by omega]; exact growslice_fits hc (by omega))
    rw [show p + (n + 1 - p) = n + 1 by omega, ← hG] at h
    rw [show (n : Int) + 1 - (p : Int) = ((n + 1 - p : Nat) : Int) by omega, h, hZ1, hZ2]
    congr 3
    apply Array.toList_inj.1
    simp
  obtain ⟨W1, hW1⟩ : ∃ W1, W1 = w.drew.alloc (.cells (X ++ Z1 ++ Z2).toArray 50) := ⟨_, rfl⟩
  have HR1 : Hid (Arr W1 w.heap.size 50 (X ++ Z1 ++ Z2).toArray) := by
    show Arr _ _ _ _
    rw [hW1]; exact Arr.new w.drew _ _
  have HE1 : Hid (Ext w W1) := by
    show Ext _ _
    rw [hW1]; exact ((Ext.refl w).drew).alloc _
  rw [← hW1] at hrz
  have HSP : Hid ((splice (splice (X ++ Z1 ++ Z2) (p * 5) V) ((p + 1) * 5) Y).take ((n + 1) * 5) = X ++ V ++ Y) := by
    have := splice_grow X V Y Z1 Z2 (p * 5) 5 hX hV (by rw [lZ1, hV, hYl]; omega)
    rw [hYl] at this
    show _ = _
    rw [show (p + 1) * 5 = p * 5 + 5 by omega, show (n + 1) * 5 = p * 5 + 5 + (n - p) * 5 by omega]
    exact this
  have HCL : Hid ((X ++ Z1 ++ Z2).length = G * 5) := by
    show _ = _
    rw [List.length_append, List.length_append, hX, lZ1, lZ2]; omega
  have HYL := Lib.hid hYl
  have HVL := Lib.hid hV
  have HL1 : Hid ((splice (X ++ Z1 ++ Z2) (p * 5) V).length = G * 5) := by show _ = _; rw [length_splice _ _ _ (by rw [hV, HCL.out]; omega)]; exact HCL.out
  have HL2 : Hid ((splice (splice (X ++ Z1 ++ Z2) (p * 5) V) ((p + 1) * 5) Y).length = G * 5) := by show _ = _; rw [length_splice _ _ _ (by rw [HYL.out, HL1.out]; omega)]; exact HL1.out
  have HCY : Hid (∀ (W : World), Ext w W → ∀ j u, Y[j]? = some u → W.cell? (Addr.add ⟨g, p * 5, none⟩ j) = some u) := fun W e j u hu => by
    have := HCX W e (p * 5 + j) u (by rw [List.getElem?_append_right (by omega), hX, Nat.add_sub_cancel_left]; exact hu)
    rw [add_mk, Nat.zero_add] at this
    rw [add_mk]; exact this
  have HVE : Hid (∀ (W : World), Ext w W → Arr W vb 50 V.toArray) := fun W e => hv.ext e
  have H1 := Lib.hid h1
  have H2 := Lib.hid h2
  generalize X ++ Z1 ++ Z2 = cur at *
  obtain ⟨gn, hgn⟩ : ∃ gn, gn = w.heap.size := ⟨_, rfl⟩
  have HGN := Lib.hid hgn
  rw [← hgn] at HR1 hrz
  have HLE : Hid (w.heap.size ≤ gn) := Nat.le_of_eq hgn.symm
  clear O hlen hrd HCX hi0 hz0 hzs hzb hold hG hZ1 hZ2 lZ1 lZ2 hW1 h1 h2 hv hX hYl hV hgn
  have z1 : ¬ ((p : Int) = (n : Int)) := by omega
  have u1 : IntKind.i64.wrap ((n : Int) + 1) = (n : Int) + 1 := IntWalk.i64_in _ (by omega)
  have u2 : IntKind.i64.wrap ((p : Int) + 1) = (p : Int) + 1 := IntWalk.i64_in _ (by omega)
  have u3 : IntKind.i64.wrap ((n : Int) + 1 - (p : Int)) = (n : Int) + 1 - (p : Int) := IntWalk.i64_in _ (by omega)
  have z3 : ((c : Int) < (n : Int) + 1) := by omega
  have t2 : ((p : Int) + 1).toNat = p + 1 := by omega
  have t4 : (0 : Int) ≤ (p : Int) + 1 := by omega
  have t5 : (p : Int) + 1 ≤ (n : Int) + 1 := by omega
  have t6 : (p : Int) ≤ (n : Int) + 1 := by omega
  have t7 : ¬ G = p + 1 := by omega
  have t8 : ¬ G = p := by omega
  have t9 : p ≤ n := by omega
  have t10 : ¬ c = p := by omega
  have t11 : p ≤ c := by omega
  have t12 : p ≤ n + 1 := by omega
  have HBS := Lib.hid hbase
  clear hbase
  go_enter Try.func132, Try.ntmps132
  go_wp2_with (first
    | ((with_reducible show wpList _ _ _ ({ dst := some 40, op := Op.call { callee := Callee.builtin Builtin.append, args := _, argTypes := _ }, type := _, pos := _, after := _, guard := _ } :: _) _ _); refine Lib.wpList_append_run _ rfl _ _ _ _ rfl _ _ rfl rfl _ _ (hrz _) ?_; clear hrz z3)
    | ((with_reducible show wpList _ _ _ ({ dst := some 45, op := Op.call { callee := Callee.builtin Builtin.copy, args := _, argTypes := _ }, type := _, pos := _, after := _, guard := _ } :: _) _ _); refine cpV _ rfl (.tmp 43) (.tmp 44) 46 46 rfl 50 5 Try.underlying46 size_gh _ _ _ _ _ _ rfl rfl gn (p * 5) cur 50 HR1.out V 1 (by show min _ _ = _; omega) (by rw [HVL.out]) (fun _ => ⟨rfl, _, rfl, fun j u hj => by rw [add_mk, Nat.zero_add, (HVE.out _ HE1.out).cell]; simpa using hj⟩) (by have := HVL.out; have := HCL.out; omega) H1.out ?_; intro w4 k4 g4; have R4 := Lib.hid k4; have E4 := Lib.hid (HE1.out.grown g4 (fun q hq => by injection hq with hq; have := HLE.out; omega)); clear k4 g4))
  refine wp_region_still_tail 8 (by kernel_rfl) (by kernel_rfl) ?_
  simp only [List.take_succ_cons, List.take_zero, List.drop_succ_cons, List.drop_zero]
  change wpStill _ _ w4.drew (fun a' => wpList _ _ _ _ a' w4.drew) _ _
  have R5 := Lib.hid R4.out.drew
  have E5 := Lib.hid E4.out.drew
  clear R4 E4
  generalize w4.drew = w5 at *
  repeat still_step
  refine wpStill_nil ?_
  go_wp2_with (first
    | ((with_reducible show wpList _ _ _ ({ dst := some 54, op := Op.call { callee := Callee.builtin Builtin.copy, args := _, argTypes := _ }, type := _, pos := _, after := _, guard := _ } :: _) _ _); refine cpV _ rfl (.tmp 50) (.tmp 53) 46 46 rfl 50 5 Try.underlying46 size_gh _ _ _ _ _ _ rfl rfl gn ((p + 1) * 5) _ 50 R5.out Y (n - p) (by show min _ _ = _; omega) HYL.out (fun _ => ⟨by first | rfl | (congr 2; omega), _, rfl, HCY.out _ E5.out⟩) (by have := HYL.out; have := HL1.out; omega) H2.out ?_; intro w6 k6 g6; have R6 := Lib.hid k6; have E6 := Lib.hid (E5.out.grown g6 (fun q hq => by injection hq with hq; have := HLE.out; omega)); clear k6 g6))
  go_ret
  refine ⟨some ⟨gn, 0, none⟩, G, rfl, ⟨?_, .inr ⟨gn, G, _, rfl, Nat.le_trans HBS.out HLE.out, R6.out, hGn, by unfold maxLen; omega, by simpa using HL2.out, ?_⟩⟩, E6.out.toGrown, .inr ⟨gn, rfl, HLE.out⟩⟩
  · have h1 := congrArg List.length HSP.out
    rw [List.length_take, HL2.out] at h1
    simp only [List.append_assoc] at h1 ⊢
    omega
  · have h1 := HSP.out
    simp only [List.append_assoc] at h1 ⊢
    exact h1
end Go.Proofs.Ytlgngnkaiidbeaa
