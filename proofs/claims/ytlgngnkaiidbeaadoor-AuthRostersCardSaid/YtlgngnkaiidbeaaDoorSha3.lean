/- ref03.Block. -/
import Derived.Test.YtlgngnkaiidbeaaDoorSha2
set_option maxRecDepth 100000
set_option linter.unusedVariables false
set_option linter.unusedSimpArgs false
namespace Go.Proofs.YtlgngnkaiidbeaaDoor
open Go.RowKit

/-- where ref03.Block stands: its variables -/
def RW (w wr : World) (g gr gk gw : Nat) (s W : List Nat) : Prop :=
  Ext w wr ∧ w.heap.size = g ∧ gr = g + 1 ∧ gr < gk ∧ gk < gw ∧ Arr wr g 71 (uvs s) ∧ Arr wr gr 71 (uvs (List.replicate 8 0)) ∧ Arr wr gk 83 (uvs Sha.K) ∧ Arr wr gw 83 (uvs W)
section rw
variable {w wr w2 : World} {g gr gk gw gv : Nat} {s W V : List Nat}
theorem RW.ext (h : RW w wr g gr gk gw s W) (e : Ext wr w2) : RW w w2 g gr gk gw s W :=
  ⟨h.1.trans e, h.2.1, h.2.2.1, h.2.2.2.1, h.2.2.2.2.1, h.2.2.2.2.2.1.ext e, h.2.2.2.2.2.2.1.ext e, h.2.2.2.2.2.2.2.1.ext e, h.2.2.2.2.2.2.2.2.ext e⟩
theorem RW.drewN (h : RW w wr g gr gk gw s W) (n : Nat) : RW w (wr.drewN n) g gr gk gw s W := h.ext ((Ext.refl _).drewN n)
theorem RW.drew (h : RW w wr g gr gk gw s W) : RW w wr.drew g gr gk gw s W := h.ext (Ext.refl _).drew
theorem RW.arr (h : RW w wr g gr gk gw s W) : Arr wr gw 83 (uvs W) := h.2.2.2.2.2.2.2.2
theorem RW.arrK (h : RW w wr g gr gk gw s W) : Arr wr gk 83 (uvs Sha.K) := h.2.2.2.2.2.2.2.1
theorem RW.arrS (h : RW w wr g gr gk gw s W) : Arr wr g 71 (uvs s) := h.2.2.2.2.2.1
theorem RW.arrR (h : RW w wr g gr gk gw s W) : Arr wr gr 71 (uvs (List.replicate 8 0)) := h.2.2.2.2.2.2.1
theorem RW.set (h : RW w wr g gr gk gw s W) (i n : Nat) (x : Int) (hx : x = (n : Int)) : RW w (wr.setCell ⟨gw, i, none⟩ (.int .u32 x)) g gr gk gw s (W.set i n) := by
  subst hx
  obtain ⟨h1, h2, h3, h4, h5, h6, h7, h8, h9⟩ := h
  refine ⟨h1.setCell (by show _ ≤ gw; omega) _, h2, h3, h4, h5, h6.other (by omega) _ _, h7.other (by omega) _ _, h8.other (by omega) _ _, ?_⟩
  rw [← uvs_set]
  exact h9.set i _
theorem RW.grown (h : RW w wr g gr gk gw s W) (hh : gw < gv) (hg : wr.grownBy w2 (some gv)) : RW w w2 g gr gk gw s W := by
  obtain ⟨h1, h2, h3, h4, h5, h6, h7, h8, h9⟩ := h
  refine ⟨h1.grown hg (fun k hk => by injection hk with hk; omega), h2, h3, h4, h5, h6.grown hg ?_, h7.grown hg ?_, h8.grown hg ?_, h9.grown hg ?_⟩ <;> (intro e; injection e with e; omega)
/-- .. and the state that turns -/
def RN (w wr : World) (g gr gk gw gv : Nat) (s W V : List Nat) : Prop := RW w wr g gr gk gw s W ∧ gw < gv ∧ Arr wr gv 71 (uvs V)
theorem RN.drewN (h : RN w wr g gr gk gw gv s W V) (n : Nat) : RN w (wr.drewN n) g gr gk gw gv s W V := ⟨h.1.drewN n, h.2.1, h.2.2⟩
theorem RN.drew (h : RN w wr g gr gk gw gv s W V) : RN w wr.drew g gr gk gw gv s W V := ⟨h.1.drew, h.2.1, h.2.2⟩
theorem RN.set (h : RN w wr g gr gk gw gv s W V) (i n : Nat) (x : Int) (hx : x = (n : Int)) : RN w (wr.setCell ⟨gv, i, none⟩ (.int .u32 x)) g gr gk gw gv s W (V.set i n) := by
  subst hx
  refine ⟨h.1.grown h.2.1 ?_, h.2.1, by rw [← uvs_set]; exact h.2.2.set i _⟩
  exact ⟨rfl, rfl, rfl, by simp [World.setCell], fun k _ hne => Below.heap_setCell _ _ _ _ (by intro e; subst e; exact hne rfl)⟩
end rw
theorem addS_comm (s V : List Nat) : Sha.addS V s = Sha.addS s V := by unfold Sha.addS; rw [List.zipWith_comm]; congr 1; funext a b; rw [Nat.add_comm]
theorem add_pos' (a : Addr) (n : Nat) (h : n ≠ 0) : a.add n = ⟨a.block, a.off + n, none⟩ := by simp [Addr.add, h]
theorem sub_ex (e : Nat) (he : e < 4294967296) : IntKind.u32.wrap (4294967295 - (e : Int)) = ((4294967295 - e : Nat) : Int) := by
  rw [u32_in _ (by omega) (by omega)]; omega
theorem stl {P : Program} {f : FuncId} {args : Array Value} {w : World} {v : Value} (h : Calls P f args w fun e w' => e = .returned v ∧ w = w') : Calls P f args w fun e w' => e = .returned v ∧ w' = w := h.mono fun _ _ ⟨a, b⟩ => ⟨a, b.symm⟩
theorem rword_ex (p0 p1 p2 p3 : Nat) (h0 : p0 < 256) (h1 : p1 < 256) (h2 : p2 < 256) (h3 : p3 < 256) : ∃ y1 y2 y3 : Nat,
    IntKind.u32.wrap ((p0 : Int) * 16777216 + (p1 : Int) * 65536) = (y1 : Int) ∧ IntKind.u32.wrap ((y1 : Int) + (p2 : Int) * 256) = (y2 : Int) ∧ IntKind.u32.wrap ((y2 : Int) + (p3 : Int)) = (y3 : Int) ∧ y3 = p0 * 16777216 + p1 * 65536 + p2 * 256 + p3 :=
  ⟨p0 * 16777216 + p1 * 65536, p0 * 16777216 + p1 * 65536 + p2 * 256, p0 * 16777216 + p1 * 65536 + p2 * 256 + p3, by rw [u32_in _ (by omega) (by omega)]; omega, by rw [u32_in _ (by omega) (by omega)]; omega, by rw [u32_in _ (by omega) (by omega)]; omega, rfl⟩

set_option maxHeartbeats 8000000 in
theorem rblock_calls (s : List Nat) (A : Option Addr) (c : Nat) (b : List UInt8) (w : World) (hs : s.length = 8) (hs2 : ∀ x ∈ s, x < 4294967296) (hb : b.length = 64) (hrd : RdB w A b) :
    Calls Tryd.prog 45 #[.agg (uvs s), .slice A 64 c] w fun e w' => e = .returned (.agg (uvs (Sha.block s b))) ∧ Ext w w' := by
  have HS := Lib.hid hs
  have HS2 := Lib.hid hs2
  have HB := Lib.hid hb
  obtain ⟨ad, rfl⟩ : ∃ ad, A = some ad := let ⟨ad, h, _⟩ := hrd.at_ (k := 0) (by omega); ⟨ad, h⟩
  have HR := Lib.hid hrd
  clear hs hs2 hb hrd
  go_enter Tryd.func45, Tryd.ntmps45
  go_wp2_with (first | ((with_reducible show wpList _ _ _ ({ dst := some 2, op := Op.box 71 _, type := _, pos := _, after := _, guard := _ } :: _) _ _); refine bxA _ rfl 71 _ rfl (uvs s) rfl ?_; intro g w1 hg hs1 h1 e1; have HG := Lib.hid hg; have H1 := Lib.hid h1; have E1 := Lib.hid e1; have S1 := Lib.hid hs1; clear h1 e1 hs1 hg) | ((with_reducible show wpList _ _ _ ({ dst := some 4, op := Op.alloc 71, type := _, pos := _, after := _, guard := _ } :: _) _ _); refine alA _ rfl 71 rfl _ _ zero8 ?_; intro gr w2 hg hs1 h1 e1; have HG2 := Lib.hid (hg.symm.trans S1.out); have H2 := Lib.hid h1; have E2 := Lib.hid e1; have S2 := Lib.hid hs1; clear h1 e1 hs1 hg) | (go_at_call 56; refine (constants_calls _).mono ?_; rintro e w3 ⟨rfl, e3⟩; have E3 := Lib.hid e3; clear e3) | ((with_reducible show wpList _ _ _ ({ dst := some 5, op := Op.alloc 83, type := _, pos := _, after := _, guard := _ } :: _) _ _); refine alA _ rfl 83 rfl _ _ zero64 ?_; intro gk w4 hg hs1 h1 e1; have HG4 := Lib.hid hg; have H4 := Lib.hid h1; have E4 := Lib.hid e1; have S4 := Lib.hid hs1; clear h1 e1 hs1 hg) | ((with_reducible show wpList _ _ _ ({ dst := none, op := Op.store 83 (.tmp 5) _, type := _, pos := _, after := _, guard := _ } :: _) _ _); refine stA _ rfl 83 83 _ _ rfl gk _ (uvs Sha.K) rfl rfl H4.out size64 rfl (uvs_one _) ?_; intro w5 hs5 h5 g5; have H5 := Lib.hid h5; have G5 := Lib.hid g5; have S5 := Lib.hid hs5; clear h5 g5 hs5) | ((with_reducible show wpList _ _ _ ({ dst := some 6, op := Op.alloc 83, type := _, pos := _, after := _, guard := _ } :: _) _ _); refine alA _ rfl 83 rfl _ _ zero64 ?_; intro gw w6 hg hs1 h1 e1; have HG6 := Lib.hid hg; have H6 := Lib.hid h1; have E6 := Lib.hid e1; clear h1 e1 hs1 hg) | fail)
  have HW : Hid (RW w w6 g gr gk gw s (wz b 0)) := by
    have e2 := HG2.out
    have k1 := E3.out.size
    have k2 := HG4.out
    have k3 := S2.out
    have k4 := S4.out
    have k5 := S5.out
    have k6 := HG6.out
    have k7 := HG.out
    have ek := (((E1.out.trans E2.out).trans E3.out).trans E4.out)
    have ng : ∀ i : Nat, i < gk → some i ≠ some gk := fun i hi e => by injection e with e; omega
    exact ⟨(ek.grown G5.out (fun k hk => by injection hk with hk; omega)).trans E6.out, k7, e2, by omega, by omega,
      (((((H1.out.ext E2.out).ext E3.out).ext E4.out).grown G5.out (ng _ (by omega))).ext E6.out), ((((H2.out.ext E3.out).ext E4.out).grown G5.out (ng _ (by omega))).ext E6.out), H5.out.ext E6.out, H6.out⟩
  clear H1 H2 H4 H5 H6 E1 E2 E3 E4 G5 E6 S1 S2 S4 S5 HG HG2 HG4 HG6
  go_loopw [7, 8, 9] (fun i _ _ wr => ∃ k : Nat, k ≤ 64 ∧ i = .int .i64 k ∧ RW w wr g gr gk gw s (wz b k)) (fun i _ _ _ => 64 - (intOf i).toNat)
  case atStart => exact ⟨0, by omega, rfl, HW.out⟩
  case round =>
    clear HW
    rename_i wr
    obtain ⟨k, hk, rfl, hbw⟩ := hrel
    have HW := Lib.hid hbw
    clear hbw
    have HC := Lib.hid (fun (w' : World) (h : Ext w w') (i : Nat) (hi : i < 64) => by have := ((HR.out.ext h).at_ (k := i) (by rw [HB.out]; exact hi)); obtain ⟨ad', e, hc⟩ := this; cases e; exact (show w'.cell? (ad.add i) = some (.int .u8 ((b[i]?.getD 0).toNat : Int)) from by rw [List.getElem?_eq_getElem (by rw [HB.out]; exact hi)]; exact hc))
    by_cases hlt : k < 16
    · have HW2 := Lib.hid HW.out.drew
      have c0 := HC.out _ HW2.out.1 (4 * k) (by omega)
      have c1 := HC.out _ HW2.out.1 (4 * k + 1) (by omega)
      rw [add_pos' _ _ (by omega)] at c1
      have c2 := HC.out _ HW2.out.1 (4 * k + 2) (by omega)
      rw [add_pos' _ _ (by omega)] at c2
      have c3 := HC.out _ HW2.out.1 (4 * k + 3) (by omega)
      rw [add_pos' _ _ (by omega)] at c3
      have f := HW2.out.arr.frozen k
      have q := HW2.out.arr.cell_some (uvs_get (wz b k) k (by rw [wz_length b k (by omega)]; omega))
      have HN : Hid (Sha.nextW b (Sha.ws b k) k = (b[4 * k]?.getD 0).toNat * 16777216 + (b[4 * k + 1]?.getD 0).toNat * 65536 + (b[4 * k + 2]?.getD 0).toNat * 256 + (b[4 * k + 3]?.getD 0).toNat) := by
        show _ = _; rw [Sha.nextW, if_pos hlt]; rfl
      have l0 := (b[4 * k]?.getD 0).toNat_lt
      have l1 := (b[4 * k + 1]?.getD 0).toNat_lt
      have l2 := (b[4 * k + 2]?.getD 0).toNat_lt
      have l3 := (b[4 * k + 3]?.getD 0).toNat_lt
      generalize (b[4 * k]?.getD 0).toNat = p0 at *
      generalize (b[4 * k + 1]?.getD 0).toNat = p1 at *
      generalize (b[4 * k + 2]?.getD 0).toNat = p2 at *
      generalize (b[4 * k + 3]?.getD 0).toNat = p3 at *
      obtain ⟨y1, y2, y3, o1, o2, o3, hy⟩ := rword_ex p0 p1 p2 p3 l0 l1 l2 l3
      have HN2 := Lib.hid (HN.out.trans hy.symm)
      clear HN hy HW HC
      have v0 := u32_in (p0 : Int) (by omega) (by omega)
      have v1 := u32_in (p1 : Int) (by omega) (by omega)
      have v2 := u32_in (p2 : Int) (by omega) (by omega)
      have v3 := u32_in (p3 : Int) (by omega) (by omega)
      have x0 := u32_in ((p0 : Int) * 16777216) (by omega) (by omega)
      have x1 := u32_in ((p1 : Int) * 65536) (by omega) (by omega)
      have x2 := u32_in ((p2 : Int) * 256) (by omega) (by omega)
      have k64 : (k : Int) < 64 := by omega
      have k0 : (0 : Int) ≤ (k : Int) := by omega
      have i0 : IntKind.i64.wrap (4 * (k : Int)) = 4 * (k : Int) := IntWalk.i64_in _ (by omega)
      have i1 : IntKind.i64.wrap (4 * (k : Int) + 1) = 4 * (k : Int) + 1 := IntWalk.i64_in _ (by omega)
      have i2 : IntKind.i64.wrap (4 * (k : Int) + 2) = 4 * (k : Int) + 2 := IntWalk.i64_in _ (by omega)
      have i3 : IntKind.i64.wrap (4 * (k : Int) + 3) = 4 * (k : Int) + 3 := IntWalk.i64_in _ (by omega)
      have j0 : (0 : Int) ≤ 4 * (k : Int) ∧ 4 * (k : Int) < 64 := by omega
      have j1 : (0 : Int) ≤ 4 * (k : Int) + 1 ∧ 4 * (k : Int) + 1 < 64 := by omega
      have j2 : (0 : Int) ≤ 4 * (k : Int) + 2 ∧ 4 * (k : Int) + 2 < 64 := by omega
      have j3 : (0 : Int) ≤ 4 * (k : Int) + 3 ∧ 4 * (k : Int) + 3 < 64 := by omega
      have m0 : (4 * (k : Int)).toNat = 4 * k := by omega
      have m1 : (4 * (k : Int) + 1).toNat = 4 * k + 1 := by omega
      have m2 : (4 * (k : Int) + 2).toNat = 4 * k + 2 := by omega
      have m3 : (4 * (k : Int) + 3).toNat = 4 * k + 3 := by omega
      go_wp2_with fail
      refine wp_region_still_tail 35 (by kernel_rfl) (by kernel_rfl) ?_
      simp only [List.take_succ_cons, List.take_zero, List.drop_succ_cons, List.drop_zero]
      change wpStill _ _ wr.drew (fun a' => wpList _ _ _ _ a' wr.drew) _ _
      generalize wr.drew = w2 at *
      repeat still_step
      refine wpStill_nil ?_
      go_wp2
      go_roundw
      case rel => exact ⟨k + 1, by omega, by go_num, by rw [← wz_set b k (by omega), HN2.out]; exact HW2.out.set k y3 _ rfl⟩
      case measure => simp [intOf]; omega
    · by_cases hlt2 : k < 64
      · have hwl := wz_length b k hk
        have c15 := HW.out.arr.cell_some (uvs_get (wz b k) (k - 15) (by omega))
        have c2 := HW.out.arr.cell_some (uvs_get (wz b k) (k - 2) (by omega))
        rw [wz_at b k _ (by omega)] at c15 c2
        have lx := Sha.at_lt (Sha.ws_lt b k) (k - 15)
        have ly := Sha.at_lt (Sha.ws_lt b k) (k - 2)
        have HN : Hid (Sha.nextW b (Sha.ws b k) k = (Sha.at_ (Sha.ws b k) (k - 16) + Sha.s0 (Sha.at_ (Sha.ws b k) (k - 15)) + Sha.at_ (Sha.ws b k) (k - 7) + Sha.s1 (Sha.at_ (Sha.ws b k) (k - 2))) % 4294967296) := by
          show _ = _; rw [Sha.nextW, if_neg (by omega)]
        have HW3 := Lib.hid HW.out.drew
        have c16 := HW3.out.arr.cell_some (uvs_get (wz b k) (k - 16) (by omega))
        have c7 := HW3.out.arr.cell_some (uvs_get (wz b k) (k - 7) (by omega))
        rw [wz_at b k _ (by omega)] at c16 c7
        have ck := HW3.out.arr.cell_some (uvs_get (wz b k) k (by omega))
        have f := HW3.out.arr.frozen k
        clear hwl HC
        generalize Sha.at_ (Sha.ws b k) (k - 15) = x at *
        generalize Sha.at_ (Sha.ws b k) (k - 2) = y at *
        generalize Sha.at_ (Sha.ws b k) (k - 16) = p at *
        generalize Sha.at_ (Sha.ws b k) (k - 7) = q at *
        obtain ⟨y1, y2, o1, o2, o3, o4⟩ := s0_ex x lx
        obtain ⟨z1, z2, q1, q2, q3, q4⟩ := s1_ex y ly
        obtain ⟨a1, r1, t1⟩ := add_ex p q
        obtain ⟨a2, r2, t2⟩ := add_ex a1 y2
        obtain ⟨a3, r3, t3⟩ := add_ex a2 z2
        have HN2 : Hid (Sha.nextW b (Sha.ws b k) k = a3) := by show _ = _; rw [HN.out, t3, t2, t1, o3, q3]; omega
        clear HN o3 q3 t1 t2 t3
        have i1 : IntKind.i64.wrap ((k : Int) - 15) = (k : Int) - 15 := IntWalk.i64_in _ (by omega)
        have i2 : (0 : Int) ≤ (k : Int) - 15 := by omega
        have i3 : ((k : Int) - 15).toNat = k - 15 := by omega
        have i4 : (k : Int) - 15 < 64 := by omega
        have u1 : IntKind.i64.wrap ((k : Int) - 2) = (k : Int) - 2 := IntWalk.i64_in _ (by omega)
        have u2 : (0 : Int) ≤ (k : Int) - 2 := by omega
        have u3 : ((k : Int) - 2).toNat = k - 2 := by omega
        have u4 : (k : Int) - 2 < 64 := by omega
        have k64 : (k : Int) < 64 := by omega
        have k0 : (0 : Int) ≤ (k : Int) := by omega
        have k16 : (16 : Int) ≤ (k : Int) := by omega
        have k7 : (7 : Int) ≤ (k : Int) := by omega
        have k15 : (15 : Int) ≤ (k : Int) := by omega
        have k2 : (2 : Int) ≤ (k : Int) := by omega
        have k16n : 16 ≤ k := by omega
        have k15n : 15 ≤ k := by omega
        have k7n : 7 ≤ k := by omega
        have k2n : 2 ≤ k := by omega
        go_upto_region 10 with (fail)
        clear i1 i2 i3 i4 u1 u2 u3 u4 c15 c2
        have i1 : IntKind.i64.wrap ((k : Int) - 16) = (k : Int) - 16 := IntWalk.i64_in _ (by omega)
        have i2 : (0 : Int) ≤ (k : Int) - 16 := by omega
        have i3 : ((k : Int) - 16).toNat = k - 16 := by omega
        have i4 : (k : Int) - 16 < 64 := by omega
        have u1 : IntKind.i64.wrap ((k : Int) - 7) = (k : Int) - 7 := IntWalk.i64_in _ (by omega)
        have u2 : (0 : Int) ≤ (k : Int) - 7 := by omega
        have u3 : ((k : Int) - 7).toNat = k - 7 := by omega
        have u4 : (k : Int) - 7 < 64 := by omega
        refine wp_region_still_tail 29 (by kernel_rfl) (by kernel_rfl) ?_
        simp only [List.take_succ_cons, List.take_zero, List.drop_succ_cons, List.drop_zero]
        change wpStill _ _ wr.drew (fun a' => wpList _ _ _ _ a' wr.drew) _ _
        clear HW
        generalize wr.drew = w2 at *
        iterate 11 still_step
        still_call (stl (turn7 _ _ lx))
        still_step
        still_call (stl (turn18 _ _ lx))
        iterate 6 still_step
        still_call (stl (turn17 _ _ ly))
        still_step
        still_call (stl (turn19 _ _ ly))
        repeat still_step
        refine wpStill_nil ?_
        go_wp2
        go_roundw
        case rel => exact ⟨k + 1, by omega, by go_num, by rw [← wz_set b k (by omega), HN2.out]; exact HW3.out.set k a3 _ rfl⟩
        case measure => simp [intOf]; omega
      · have HK := Lib.hid (show k = 64 from by omega)
        rw [HK.out, wz_full] at HW
        generalize k = k64 at *
        clear HC
        have HZ : Hid ((Tryd.prog.info? 71).map (·.size) = some (uvs s).size) := by show _ = _; rw [uvs_size, HS.out]; exact size8
        have HZ2 : Hid ((uvs (List.replicate 8 0)).size = (uvs s).size) := by show _ = _; rw [uvs_size, uvs_size, HS.out]; rfl
        go_wp2_with (first | ((with_reducible show wpList _ _ _ ({ dst := some 94, op := Op.load 71 _, type := _, pos := _, after := _, guard := _ } :: _) _ _); refine ldA _ rfl 71 71 _ rfl g rfl (uvs s) _ HW.out.arrS Tryd.underlying71 rfl HZ.out ?_) | ((with_reducible show wpList _ _ _ ({ dst := some 10, op := Op.alloc 71, type := _, pos := _, after := _, guard := _ } :: _) _ _); refine alA _ rfl 71 rfl _ _ zero8 ?_; intro gv w5 hg hs1 h1 e1; have H5 := Lib.hid h1; have HW5 := Lib.hid (HW.out.ext e1); have HH := Lib.hid (show gw < gv from by have := HW.out.arr.lt; omega); clear h1 e1 hs1 hg HW) | ((with_reducible show wpList _ _ _ ({ dst := none, op := Op.store 71 (.tmp 10) _, type := _, pos := _, after := _, guard := _ } :: _) _ _); refine stA _ rfl 71 71 _ _ rfl gv _ (uvs s) rfl rfl H5.out HZ.out HZ2.out (uvs_one _) ?_; intro w6 hs6 h6 g6; have HN := Lib.hid (show RN w w6 g gr gk gw gv s (Sha.ws b 64) (Sha.rounds s (Sha.ws b 64) 0) from ⟨HW5.out.grown HH.out g6, HH.out, h6⟩); clear hs6 h6 g6 H5 HW5 HH HZ HZ2) | fail)
        go_loopw [11, 12, 13] (fun i _ _ wr => ∃ k : Nat, k ≤ 64 ∧ i = .int .i64 k ∧ RN w wr g gr gk gw gv s (Sha.ws b 64) (Sha.rounds s (Sha.ws b 64) k)) (fun i _ _ _ => 64 - (intOf i).toNat)
        case atStart => exact ⟨0, by omega, rfl, HN.out⟩
        case round =>
          clear HN HK
          rename_i wr
          obtain ⟨k, hk, rfl, hbn⟩ := hrel
          have HN := Lib.hid hbn
          clear hbn
          by_cases hlt : k < 64
          · have hv := Sha.rounds_lt HS2.out (Sha.ws b 64) k
            have hvl := Sha.rounds_length s (Sha.ws b 64) k HS.out
            have HV : Hid (Sha.rounds s (Sha.ws b 64) (k + 1) = Sha.rnd (Sha.rounds s (Sha.ws b 64) k) (Sha.at_ Sha.K k) (Sha.at_ (Sha.ws b 64) k)) := rfl
            generalize Sha.rounds s (Sha.ws b 64) k = V at *
            have HC := Lib.hid (fun (w' : World) (hh : RN w w' g gr gk gw gv s (Sha.ws b 64) V) (i : Nat) (hi : i < 8) => hh.2.2.cell_some (uvs_get V i (by omega)))
            have l0 := Sha.at_lt hv 0
            have l1 := Sha.at_lt hv 1
            have l2 := Sha.at_lt hv 2
            have l4 := Sha.at_lt hv 4
            have l5 := Sha.at_lt hv 5
            have l6 := Sha.at_lt hv 6
            have dw := HN.out.1.arr.cell_some (uvs_get (Sha.ws b 64) k (by rw [Sha.ws_length]; exact hlt))
            have dk := HN.out.1.arrK.cell_some (uvs_get Sha.K k hlt)
            obtain ⟨x1, x2, a1, b1, ne, b2, b3, a2, a3, t, ⟨o1, o2, o3, o4, o5, o6, o7, o8, o9, o10⟩, ht, ht2⟩ := t_ex (Sha.at_ V 7) (Sha.at_ V 4) (Sha.at_ V 5) (Sha.at_ V 6) (Sha.at_ Sha.K k) (Sha.at_ (Sha.ws b 64) k) l4 l5 l6
            have o5b : IntKind.u32.wrap (4294967295 - (Sha.at_ V 4 : Int)) = (ne : Int) := by
              obtain ⟨ne', p5, q5, _⟩ := not_ex (Sha.at_ V 4) l4
              have : ne = ne' := by have := o5.symm.trans p5; omega
              rw [this, q5]; exact sub_ex _ l4
            obtain ⟨y1, y2, c1, c2, c3, c4, c5, z, ⟨q1, q2, q3, q4, q5, q6, q7, q8⟩, hz, m1, m2⟩ := u_ex (Sha.at_ V 0) (Sha.at_ V 1) (Sha.at_ V 2) l0 l1 l2
            obtain ⟨n0, r0, hn0⟩ := add_ex t z
            obtain ⟨n4, r4, hn4⟩ := add_ex (Sha.at_ V 3) t
            have HV2 : Hid (Sha.rounds s (Sha.ws b 64) (k + 1) = [n0, Sha.at_ V 0, Sha.at_ V 1, Sha.at_ V 2, n4, Sha.at_ V 4, Sha.at_ V 5, Sha.at_ V 6]) := by
              show _ = _
              rw [HV.out, Sha.rnd]
              have e0 : (Sha.tOf V (Sha.at_ Sha.K k) (Sha.at_ (Sha.ws b 64) k) + Sha.uOf V) % 4294967296 = n0 := by
                rw [hn0, ht, hz, Sha.tOf, Sha.uOf]; omega
              have e4 : (Sha.at_ V 3 + Sha.tOf V (Sha.at_ Sha.K k) (Sha.at_ (Sha.ws b 64) k)) % 4294967296 = n4 := by
                rw [hn4, ht, Sha.tOf]; omega
              rw [e0, e4]
            have HVL : Hid ((uvs V).size = 8) := by show _ = _; rw [uvs_size, hvl]
            clear HV hv hvl ht hz hn0 hn4 ht2 o5
            have d0 := HC.out _ HN.out 0 (by omega)
            have d1 := HC.out _ HN.out 1 (by omega)
            have d2 := HC.out _ HN.out 2 (by omega)
            have d3 := HC.out _ HN.out 3 (by omega)
            have d4 := HC.out _ HN.out 4 (by omega)
            have d5 := HC.out _ HN.out 5 (by omega)
            have d6 := HC.out _ HN.out 6 (by omega)
            have d7 := HC.out _ HN.out 7 (by omega)
            generalize Sha.at_ V 0 = v0 at *
            generalize Sha.at_ V 1 = v1 at *
            generalize Sha.at_ V 2 = v2 at *
            generalize Sha.at_ V 3 = v3 at *
            generalize Sha.at_ V 4 = v4 at *
            generalize Sha.at_ V 5 = v5 at *
            generalize Sha.at_ V 6 = v6 at *
            generalize Sha.at_ V 7 = v7 at *
            generalize Sha.at_ Sha.K k = kk at *
            generalize Sha.at_ (Sha.ws b 64) k = ww at *
            have k64' : (k : Int) < 64 := by omega
            have k0' : (0 : Int) ≤ (k : Int) := by omega
            go_wp2_with fail
            go_quiet ((go_at_call 57; (first | (with_reducible exact quiet_left (turn6 _ _ l4)) | (with_reducible exact quiet_left (turn11 _ _ l4)) | (with_reducible exact quiet_left (turn25 _ _ l4)))))
            go_wp2_with fail
            go_quiet ((go_at_call 57; (first | (with_reducible exact quiet_add_left (turn2 _ _ l0)) | (with_reducible exact quiet_add_left (turn13 _ _ l0)) | (with_reducible exact quiet_add_left (turn22 _ _ l0)))))
            go_wp2_with ((with_reducible show wpList _ _ _ ({ dst := none, op := Op.store 71 (.tmp 10) (.tmp 182), type := _, pos := _, after := _, guard := _ } :: _) _ _); refine stA _ rfl 71 71 (.tmp 10) (.tmp 182) rfl gv (uvs V) _ rfl rfl (HN.out.drewN _).2.2 size8 HVL.out (one8 _ _ _ _ _ _ _ _) ?_)
            intro w7 hs7 h7 g7
            have HN7 := Lib.hid (show RN w w7 g gr gk gw gv s (Sha.ws b 64) (Sha.rounds s (Sha.ws b 64) (k + 1)) from ⟨(HN.out.drewN _).1.grown HN.out.2.1 g7, HN.out.2.1, by rw [HV2.out]; exact h7⟩)
            clear hs7 h7 g7
            go_wp2_with fail
            go_roundw
            case rel => exact ⟨k + 1, by omega, by go_num, HN7.out⟩
            case measure => simp [intOf]; omega
          · have HK := Lib.hid (show k = 64 from by omega)
            rw [HK.out] at HN
            generalize k = kq at *
            go_wp2_with fail
            have HVL := Lib.hid (Sha.rounds_length s (Sha.ws b 64) 64 HS.out)
            have HBL : Hid (Sha.block s b = Sha.addS s (Sha.rounds s (Sha.ws b 64) 64)) := rfl
            generalize Sha.rounds s (Sha.ws b 64) 64 = V at *
            go_loopw [14] (fun i wr => ∃ k : Nat, k ≤ 8 ∧ i = .int .i64 k ∧ RN w wr g gr gk gw gv s (Sha.ws b 64) (mix V s k)) (fun i _ => 8 - (intOf i).toNat)
            case atStart => exact ⟨0, by omega, rfl, HN.out⟩
            case round =>
              clear HN HK
              rename_i wr
              obtain ⟨k, hk, rfl, hbn⟩ := hrel
              have HN := Lib.hid hbn.drew
              have HN0 := Lib.hid hbn
              clear hbn
              by_cases hlt : k < 8
              · have c0 := HN.out.2.2.cell_some (uvs_get (mix V s k) k (by rw [mix_length V s k HVL.out HS.out hk]; exact hlt))
                have c1 := HN.out.1.arrS.cell_some (uvs_get s k (by rw [HS.out]; exact hlt))
                have f := HN.out.2.2.frozen k
                have HM := Lib.hid (mix_set V s k HVL.out HS.out hlt)
                rw [mix_at V s k HVL.out HS.out hlt] at c0
                generalize Sha.at_ s k = x at *
                generalize Sha.at_ V k = y at *
                obtain ⟨z, r, hz⟩ := add_ex y x
                rw [← hz] at HM
                clear hz
                have k8 : (k : Int) < 8 := by omega
                have k0 : (0 : Int) ≤ (k : Int) := by omega
                go_wp2_with fail
                refine wp_region_still_tail 9 (by kernel_rfl) (by kernel_rfl) ?_
                simp only [List.take_succ_cons, List.take_zero, List.drop_succ_cons, List.drop_zero]
                change wpStill _ _ wr.drew (fun a' => wpList _ _ _ _ a' wr.drew) _ _
                clear HN0
                generalize wr.drew = w5 at *
                repeat still_step
                refine wpStill_nil ?_
                go_wp2
                go_roundw
                case rel => exact ⟨k + 1, by omega, by go_num, by rw [← HM.out]; exact HN.out.set k z _ rfl⟩
                case measure => simp [intOf]; omega
              · have HK := Lib.hid (show k = 8 from by omega)
                rw [HK.out, mix_full V s HVL.out HS.out, addS_comm, ← HBL.out] at HN0
                have HZ : Hid ((Tryd.prog.info? 71).map (·.size) = some (uvs (Sha.block s b)).size) := by show _ = _; rw [uvs_size, Sha.block_length s b HS.out]; exact size8
                have HZ2 : Hid ((uvs (List.replicate 8 0)).size = (uvs (Sha.block s b)).size) := by show _ = _; rw [uvs_size, uvs_size, Sha.block_length s b HS.out]; rfl
                clear HN
                go_wp2_with (first | ((with_reducible show wpList _ _ _ ({ dst := some 196, op := Op.load 71 _, type := _, pos := _, after := _, guard := _ } :: _) _ _); refine ldA _ rfl 71 71 _ rfl gv rfl (uvs (Sha.block s b)) _ HN0.out.2.2 Tryd.underlying71 rfl HZ.out ?_) | ((with_reducible show wpList _ _ _ ({ dst := none, op := Op.store 71 (.tmp 4) _, type := _, pos := _, after := _, guard := _ } :: _) _ _); refine stA _ rfl 71 71 _ _ rfl gr _ (uvs (Sha.block s b)) rfl rfl HN0.out.1.arrR HZ.out HZ2.out (uvs_one _) ?_; intro w6 hs6 h6 g6; have H6 := Lib.hid h6; have E6 := Lib.hid (HN0.out.1.1.grown g6 (fun k hk => by injection hk with hk; have := HN0.out.1.2.1; have := HN0.out.1.2.2.1; omega)); clear hs6 h6 g6))
                exact ret_row Tryd.results45 gr _ _ _ rfl H6.out Tryd.underlying71 rfl HZ.out ⟨rfl, E6.out⟩
end Go.Proofs.YtlgngnkaiidbeaaDoor
