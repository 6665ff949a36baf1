/- ref15.Right. -/
import Derived.Test.YtkbjnlbbfapgdaaDoorAcctL
import Derived.Maps.RangeWalk
set_option maxRecDepth 100000
set_option linter.unusedVariables false
set_option linter.unusedSimpArgs false
namespace Go.Proofs.YtkbjnlbbfapgdaaDoor
open Go.RowKit

set_option maxHeartbeats 8000000 in
theorem rright_calls (a : Ac) (AL AC : Option Addr) (cL cC : Nat) (w : World) (ha : RdA w a AL AC) (hok : a.ok) :
    Calls Tryd.prog 13 #[acA a AL cL AC cC] w (RetV w (.bool (rightB a))) := by
  have HA := Lib.hid ha
  have OK := Lib.hid hok
  have u1 := hok.2.2.1
  have l1 := hok.2.2.2.2.2.2.2.1
  have l2 := hok.2.2.2.2.2.2.2.2
  have b1 := hok.2.2.2.1
  have b2 := hok.1
  have HR : Hid (rightB a = (leasesR a.used 0 a.ls && closedR a.ten 0 a.cl && tenantB a.ten.data.toList && plainB a.bits && decide (a.per ≤ 65536) && decide (a.cl.length = a.per))) := rfl
  obtain ⟨FF, hFF⟩ : ∃ FF, FF + a.used = 18446744073709551615 := ⟨18446744073709551615 - a.used, by omega⟩
  have us : IntKind.u64.wrap (18446744073709551615 - (a.used : Int)) = (FF : Int) := by rw [IntWalk.u64_in _ (by omega)]; omega
  have HFF := Lib.hid hFF
  clear hFF
  clear ha hok
  unfold acA
  go_enter Tryd.func13, Tryd.ntmps13
  go_wp2_with (first
    | ((with_reducible show wpList _ _ _ ({ dst := some 1, op := Op.box 26 _, type := _, pos := _, after := _, guard := _ } :: _) _ _); refine bxA _ rfl 26 _ rfl _ rfl ?_; intro g1 w1 hg hs1 k1 e1; have X1 := Lib.hid k1; have E1 := Lib.hid e1; obtain ⟨a0, a1, a2, a3, a4, a5, a6⟩ := ac_cells k1; clear hg hs1 k1 e1))
  clear a0 a1 a2 a3 a4 a5 a6 us
  go_loopw [3, 4] (fun u i wr => ∃ k U L F : Nat, k ≤ a.ls.length ∧ u = .int .u64 F ∧ i = .int .i64 k ∧ Ext w1 wr ∧ F + U = 18446744073709551615 ∧ leasesR a.used 0 a.ls = leasesR U L (a.ls.drop k) ∧ (k = 0 → L = 0) ∧ ∀ j (hj : j < a.ls.length), k = j + 1 → L = a.ls[j].id) (fun _ i _ => a.ls.length - (intOf i).toNat)
  case atStart => exact ⟨0, a.used, 0, FF, by omega, rfl, rfl, Ext.refl _, HFF.out, rfl, fun _ => rfl, fun j hj h => by omega⟩
  case round =>
    obtain ⟨k, U, L, F, hk, rfl, rfl, hE, hU0, hr, hL0, hL1⟩ := hrel
    have HU := Lib.hid hU0
    have hU : U < 18446744073709551616 := by omega
    clear hU0
    have Hr := Lib.hid hr
    have HL0 := Lib.hid hL0
    have HL1 := Lib.hid hL1
    have E0 := Lib.hid hE
    have F0 := Lib.hid (E1.out.trans hE)
    clear hr hE hL0 hL1
    obtain ⟨a0, a1, a2, a3, a4, a5, a6⟩ := ac_cells (X1.out.ext E0.out)
    by_cases hlt : k < a.ls.length
    · clear a0 a1 a2 a3 a4 a6
      obtain ⟨ad, rfl, x0, x1⟩ := (HA.out.1.ext F0.out).two hlt
      have HD := Lib.hid (drop_cons hlt)
      have hx := OK.out.2.2.2.2.2.1 _ (List.getElem_mem hlt)
      have k1 : (k : Int) < (a.ls.length : Int) := by omega
      have HX : Hid (∀ j (hj : j < a.ls.length), k + 1 = j + 1 → a.ls[k].id = a.ls[j].id) := fun j hj h => by
        obtain rfl : k = j := by omega
        rfl
      generalize hxe : a.ls[k] = x at *
      clear hxe
      have z1 := hx.1
      have z2 := hx.2
      clear hx
      by_cases hk0 : k = 0
      · have hL := HL0.out hk0
        have qk : decide (0 < k) = false := by simp; omega
        clear hk0 HL0 HL1
        by_cases c1 : x.id = 0
        · have HF : Hid (leasesR a.used 0 a.ls = false) := by
            show _ = _
            rw [Hr.out, HD.out, leasesR, decide_eq_false (by omega)]; rfl
          have q1 : ((x.id : Int) == 0) = true := by rw [c1]; rfl
          clear c1
          go_wp2_with (first
            | ((with_reducible show wpList _ _ _ ({ dst := some 5, op := Op.alloc 64, type := _, pos := _, after := _, guard := _ } :: _) _ _); refine alA _ rfl 64 rfl _ _ zero_lease ?_; intro g3 w3 hg hs1 k3 e3; have X3 := Lib.hid k3; have E3 := Lib.hid (E0.out.trans e3); have G3 := Lib.hid (show w1.heap.size ≤ g3 from by have := E0.out.size; omega); clear hg hs1 k3 e3 x0 x1)
            | ((with_reducible show wpList _ _ _ ({ dst := none, op := Op.store 64 _ _, type := _, pos := _, after := _, guard := _ } :: _) _ _); refine stA _ rfl 64 64 _ _ rfl g3 _ (lzV x) rfl rfl X3.out size_lease rfl (lzV_one _) ?_; intro w4 hs k4 g4; have E4 := Lib.hid (E3.out.grown g4 (fun k hk => by injection hk with hk; have := G3.out; omega)); obtain ⟨x0, x1⟩ := lz_cells k4; obtain ⟨a0, a1, a2, a3, a4, a5, a6⟩ := ac_cells (X1.out.ext E4.out); clear a0 a1 a2 a3 a4 a6; clear hs k4 g4))
          go_frame
          go_quiet (fail)
          go_wp2_with fail
          go_ret
          rw [HR.out, HF.out]
          exact ⟨rfl, (E1.out.trans E4.out).drewN nq⟩
        · have q1 : ((x.id : Int) == 0) = false := beq_eq_false_iff_ne.2 (by omega)
          by_cases c2 : x.sz = 0
          · have HF : Hid (leasesR a.used 0 a.ls = false) := by
              show _ = _
              rw [Hr.out, HD.out, leasesR, decide_eq_false (show ¬ 0 < x.sz by omega)]; simp
            have q2 : ((x.sz : Int) == 0) = true := by rw [c2]; rfl
            clear c1 c2
            go_wp2_with (first
              | ((with_reducible show wpList _ _ _ ({ dst := some 5, op := Op.alloc 64, type := _, pos := _, after := _, guard := _ } :: _) _ _); refine alA _ rfl 64 rfl _ _ zero_lease ?_; intro g3 w3 hg hs1 k3 e3; have X3 := Lib.hid k3; have E3 := Lib.hid (E0.out.trans e3); have G3 := Lib.hid (show w1.heap.size ≤ g3 from by have := E0.out.size; omega); clear hg hs1 k3 e3 x0 x1)
              | ((with_reducible show wpList _ _ _ ({ dst := none, op := Op.store 64 _ _, type := _, pos := _, after := _, guard := _ } :: _) _ _); refine stA _ rfl 64 64 _ _ rfl g3 _ (lzV x) rfl rfl X3.out size_lease rfl (lzV_one _) ?_; intro w4 hs k4 g4; have E4 := Lib.hid (E3.out.grown g4 (fun k hk => by injection hk with hk; have := G3.out; omega)); obtain ⟨x0, x1⟩ := lz_cells k4; obtain ⟨a0, a1, a2, a3, a4, a5, a6⟩ := ac_cells (X1.out.ext E4.out); clear a0 a1 a2 a3 a4 a6; clear hs k4 g4))
            go_frame
            go_quiet (fail)
            go_wp2_with fail
            go_ret
            rw [HR.out, HF.out]
            exact ⟨rfl, (E1.out.trans E4.out).drewN nq⟩
          · have q2 : ((x.sz : Int) == 0) = false := beq_eq_false_iff_ne.2 (by omega)
            by_cases c4 : F < x.sz
            · have HF : Hid (leasesR a.used 0 a.ls = false) := by
                show _ = _
                rw [Hr.out, HD.out, leasesR, decide_eq_false (show ¬ U + x.sz < 18446744073709551616 by have := HU.out; omega)]; simp
              have q4 : decide (F < x.sz) = true := by simpa using c4
              clear c1 c2 c4
              go_wp2_with (first
                | ((with_reducible show wpList _ _ _ ({ dst := some 5, op := Op.alloc 64, type := _, pos := _, after := _, guard := _ } :: _) _ _); refine alA _ rfl 64 rfl _ _ zero_lease ?_; intro g3 w3 hg hs1 k3 e3; have X3 := Lib.hid k3; have E3 := Lib.hid (E0.out.trans e3); have G3 := Lib.hid (show w1.heap.size ≤ g3 from by have := E0.out.size; omega); clear hg hs1 k3 e3 x0 x1)
                | ((with_reducible show wpList _ _ _ ({ dst := none, op := Op.store 64 _ _, type := _, pos := _, after := _, guard := _ } :: _) _ _); refine stA _ rfl 64 64 _ _ rfl g3 _ (lzV x) rfl rfl X3.out size_lease rfl (lzV_one _) ?_; intro w4 hs k4 g4; have E4 := Lib.hid (E3.out.grown g4 (fun k hk => by injection hk with hk; have := G3.out; omega)); obtain ⟨x0, x1⟩ := lz_cells k4; obtain ⟨a0, a1, a2, a3, a4, a5, a6⟩ := ac_cells (X1.out.ext E4.out); clear a0 a1 a2 a3 a4 a6; clear hs k4 g4))
              go_frame
              go_quiet (fail)
              go_wp2_with fail
              go_ret
              rw [HR.out, HF.out]
              exact ⟨rfl, (E1.out.trans E4.out).drewN nq⟩
            · have HN : Hid (leasesR a.used 0 a.ls = leasesR (U + x.sz) x.id (a.ls.drop (k + 1))) := by
                show _ = _
                rw [Hr.out, HD.out, leasesR, decide_eq_true (show L < x.id by omega), decide_eq_true (show 0 < x.sz by omega), decide_eq_true (show U + x.sz < 18446744073709551616 by have := HU.out; omega)]; rfl
              have q4 : decide (F < x.sz) = false := by simpa using c4
              obtain ⟨F2, hF2⟩ : ∃ F2, F = F2 + x.sz := ⟨F - x.sz, by omega⟩
              have u5 : IntKind.u64.wrap ((F : Int) - x.sz) = (F2 : Int) := by have := HU.out; rw [IntWalk.u64_in _ (by omega)]; omega
              have HU2 : Hid (F2 + (U + x.sz) = 18446744073709551615) := by have := HU.out; show _ = _; omega
              clear hF2
              have hUx := HU2
              clear c1 c2 c4
              go_wp2_with (first
                | ((with_reducible show wpList _ _ _ ({ dst := some 5, op := Op.alloc 64, type := _, pos := _, after := _, guard := _ } :: _) _ _); refine alA _ rfl 64 rfl _ _ zero_lease ?_; intro g3 w3 hg hs1 k3 e3; have X3 := Lib.hid k3; have E3 := Lib.hid (E0.out.trans e3); have G3 := Lib.hid (show w1.heap.size ≤ g3 from by have := E0.out.size; omega); clear hg hs1 k3 e3 x0 x1)
                | ((with_reducible show wpList _ _ _ ({ dst := none, op := Op.store 64 _ _, type := _, pos := _, after := _, guard := _ } :: _) _ _); refine stA _ rfl 64 64 _ _ rfl g3 _ (lzV x) rfl rfl X3.out size_lease rfl (lzV_one _) ?_; intro w4 hs k4 g4; have E4 := Lib.hid (E3.out.grown g4 (fun k hk => by injection hk with hk; have := G3.out; omega)); obtain ⟨x0, x1⟩ := lz_cells k4; obtain ⟨a0, a1, a2, a3, a4, a5, a6⟩ := ac_cells (X1.out.ext E4.out); clear a0 a1 a2 a3 a4 a6; clear hs k4 g4))
              go_frame
              go_quiet (fail)
              go_wp2_with fail
              go_roundw
              case rel => exact ⟨k + 1, U + x.sz, x.id, F2, by omega, rfl, by go_num, E4.out.drewN nq, HU2.out, HN.out, fun h => by omega, fun j hj h => HX.out j hj h⟩
              case measure => simp [intOf]; omega
      · obtain ⟨j, hj⟩ : ∃ j, k = j + 1 := ⟨k - 1, by omega⟩
        have hjl : j < a.ls.length := by omega
        have hL := HL1.out j hjl hj
        obtain ⟨_, hq, y0, y1⟩ := (HA.out.1.ext F0.out).two hjl
        cases hq
        have OKP := OK.out.2.2.2.2.2.1 _ (List.getElem_mem hjl)
        have qk : decide (0 < k) = true := by simp; omega
        have qj : IntKind.i64.wrap ((k : Int) - 1) = (j : Int) := by rw [IntWalk.i64_in _ (by omega)]; omega
        have qj2 : (j : Int) < (a.ls.length : Int) := by omega
        have YC1 : Hid (∀ W, Ext w W → W.cell? (ad.add (j * 2)) = some (.int .u64 a.ls[j].id)) := fun W e => by
          obtain ⟨_, hq2, y2, _⟩ := (HA.out.1.ext e).two hjl
          cases hq2
          exact y2
        generalize a.ls[j] = y at *
        have HJ := Lib.hid hj
        have YC0 := YC1
        clear YC1
        clear hk0 HL0 HL1 hj y1
        have YC : Hid (∀ W, Ext w W → W.cell? ((ad.add (j * 2))) = some (.int .u64 y.id)) := fun W e => YC0.out W e
        clear y0
        by_cases c1 : x.id = 0
        · have HF : Hid (leasesR a.used 0 a.ls = false) := by
            show _ = _
            rw [Hr.out, HD.out, leasesR, decide_eq_false (by omega)]; rfl
          have q1 : ((x.id : Int) == 0) = true := by rw [c1]; rfl
          clear c1
          go_wp2_with (first
            | ((with_reducible show wpList _ _ _ ({ dst := some 5, op := Op.alloc 64, type := _, pos := _, after := _, guard := _ } :: _) _ _); refine alA _ rfl 64 rfl _ _ zero_lease ?_; intro g3 w3 hg hs1 k3 e3; have X3 := Lib.hid k3; have E3 := Lib.hid (E0.out.trans e3); have G3 := Lib.hid (show w1.heap.size ≤ g3 from by have := E0.out.size; omega); clear hg hs1 k3 e3 x0 x1)
            | ((with_reducible show wpList _ _ _ ({ dst := none, op := Op.store 64 _ _, type := _, pos := _, after := _, guard := _ } :: _) _ _); refine stA _ rfl 64 64 _ _ rfl g3 _ (lzV x) rfl rfl X3.out size_lease rfl (lzV_one _) ?_; intro w4 hs k4 g4; have E4 := Lib.hid (E3.out.grown g4 (fun k hk => by injection hk with hk; have := G3.out; omega)); obtain ⟨x0, x1⟩ := lz_cells k4; obtain ⟨a0, a1, a2, a3, a4, a5, a6⟩ := ac_cells (X1.out.ext E4.out); clear a0 a1 a2 a3 a4 a6; have y0 := YC.out _ (E1.out.trans E4.out); clear hs k4 g4))
          go_frame
          go_quiet (fail)
          go_wp2_with fail
          go_ret
          rw [HR.out, HF.out]
          exact ⟨rfl, (E1.out.trans E4.out).drewN nq⟩
        · have q1 : ((x.id : Int) == 0) = false := beq_eq_false_iff_ne.2 (by omega)
          by_cases c2 : x.sz = 0
          · have HF : Hid (leasesR a.used 0 a.ls = false) := by
              show _ = _
              rw [Hr.out, HD.out, leasesR, decide_eq_false (show ¬ 0 < x.sz by omega)]; simp
            have q2 : ((x.sz : Int) == 0) = true := by rw [c2]; rfl
            clear c1 c2
            go_wp2_with (first
              | ((with_reducible show wpList _ _ _ ({ dst := some 5, op := Op.alloc 64, type := _, pos := _, after := _, guard := _ } :: _) _ _); refine alA _ rfl 64 rfl _ _ zero_lease ?_; intro g3 w3 hg hs1 k3 e3; have X3 := Lib.hid k3; have E3 := Lib.hid (E0.out.trans e3); have G3 := Lib.hid (show w1.heap.size ≤ g3 from by have := E0.out.size; omega); clear hg hs1 k3 e3 x0 x1)
              | ((with_reducible show wpList _ _ _ ({ dst := none, op := Op.store 64 _ _, type := _, pos := _, after := _, guard := _ } :: _) _ _); refine stA _ rfl 64 64 _ _ rfl g3 _ (lzV x) rfl rfl X3.out size_lease rfl (lzV_one _) ?_; intro w4 hs k4 g4; have E4 := Lib.hid (E3.out.grown g4 (fun k hk => by injection hk with hk; have := G3.out; omega)); obtain ⟨x0, x1⟩ := lz_cells k4; obtain ⟨a0, a1, a2, a3, a4, a5, a6⟩ := ac_cells (X1.out.ext E4.out); clear a0 a1 a2 a3 a4 a6; have y0 := YC.out _ (E1.out.trans E4.out); clear hs k4 g4))
            go_frame
            go_quiet (fail)
            go_wp2_with fail
            go_ret
            rw [HR.out, HF.out]
            exact ⟨rfl, (E1.out.trans E4.out).drewN nq⟩
          · have q2 : ((x.sz : Int) == 0) = false := beq_eq_false_iff_ne.2 (by omega)
            by_cases c3 : x.id ≤ y.id
            · have HF : Hid (leasesR a.used 0 a.ls = false) := by
                show _ = _
                rw [Hr.out, HD.out, leasesR, decide_eq_false (show ¬ L < x.id by omega)]; rfl
              have q3 : decide (x.id ≤ y.id) = true := by simpa using c3
              clear c1 c2 c3
              go_wp2_with (first
                | ((with_reducible show wpList _ _ _ ({ dst := some 5, op := Op.alloc 64, type := _, pos := _, after := _, guard := _ } :: _) _ _); refine alA _ rfl 64 rfl _ _ zero_lease ?_; intro g3 w3 hg hs1 k3 e3; have X3 := Lib.hid k3; have E3 := Lib.hid (E0.out.trans e3); have G3 := Lib.hid (show w1.heap.size ≤ g3 from by have := E0.out.size; omega); clear hg hs1 k3 e3 x0 x1)
                | ((with_reducible show wpList _ _ _ ({ dst := none, op := Op.store 64 _ _, type := _, pos := _, after := _, guard := _ } :: _) _ _); refine stA _ rfl 64 64 _ _ rfl g3 _ (lzV x) rfl rfl X3.out size_lease rfl (lzV_one _) ?_; intro w4 hs k4 g4; have E4 := Lib.hid (E3.out.grown g4 (fun k hk => by injection hk with hk; have := G3.out; omega)); obtain ⟨x0, x1⟩ := lz_cells k4; obtain ⟨a0, a1, a2, a3, a4, a5, a6⟩ := ac_cells (X1.out.ext E4.out); clear a0 a1 a2 a3 a4 a6; have y0 := YC.out _ (E1.out.trans E4.out); clear hs k4 g4))
              go_frame
              go_quiet (fail)
              go_wp2_with fail
              go_ret
              rw [HR.out, HF.out]
              exact ⟨rfl, (E1.out.trans E4.out).drewN nq⟩
            · have q3 : decide (x.id ≤ y.id) = false := by simpa using c3
              by_cases c4 : F < x.sz
              · have HF : Hid (leasesR a.used 0 a.ls = false) := by
                  show _ = _
                  rw [Hr.out, HD.out, leasesR, decide_eq_false (show ¬ U + x.sz < 18446744073709551616 by have := HU.out; omega)]; simp
                have q4 : decide (F < x.sz) = true := by simpa using c4
                clear c1 c2 c3 c4
                go_wp2_with (first
                  | ((with_reducible show wpList _ _ _ ({ dst := some 5, op := Op.alloc 64, type := _, pos := _, after := _, guard := _ } :: _) _ _); refine alA _ rfl 64 rfl _ _ zero_lease ?_; intro g3 w3 hg hs1 k3 e3; have X3 := Lib.hid k3; have E3 := Lib.hid (E0.out.trans e3); have G3 := Lib.hid (show w1.heap.size ≤ g3 from by have := E0.out.size; omega); clear hg hs1 k3 e3 x0 x1)
                  | ((with_reducible show wpList _ _ _ ({ dst := none, op := Op.store 64 _ _, type := _, pos := _, after := _, guard := _ } :: _) _ _); refine stA _ rfl 64 64 _ _ rfl g3 _ (lzV x) rfl rfl X3.out size_lease rfl (lzV_one _) ?_; intro w4 hs k4 g4; have E4 := Lib.hid (E3.out.grown g4 (fun k hk => by injection hk with hk; have := G3.out; omega)); obtain ⟨x0, x1⟩ := lz_cells k4; obtain ⟨a0, a1, a2, a3, a4, a5, a6⟩ := ac_cells (X1.out.ext E4.out); clear a0 a1 a2 a3 a4 a6; have y0 := YC.out _ (E1.out.trans E4.out); clear hs k4 g4))
                go_frame
                go_quiet (fail)
                go_wp2_with fail
                go_ret
                rw [HR.out, HF.out]
                exact ⟨rfl, (E1.out.trans E4.out).drewN nq⟩
              · have HN : Hid (leasesR a.used 0 a.ls = leasesR (U + x.sz) x.id (a.ls.drop (k + 1))) := by
                  show _ = _
                  rw [Hr.out, HD.out, leasesR, decide_eq_true (show L < x.id by omega), decide_eq_true (show 0 < x.sz by omega), decide_eq_true (show U + x.sz < 18446744073709551616 by have := HU.out; omega)]; rfl
                have q4 : decide (F < x.sz) = false := by simpa using c4
                obtain ⟨F2, hF2⟩ : ∃ F2, F = F2 + x.sz := ⟨F - x.sz, by omega⟩
                have u5 : IntKind.u64.wrap ((F : Int) - x.sz) = (F2 : Int) := by have := HU.out; rw [IntWalk.u64_in _ (by omega)]; omega
                have HU2 : Hid (F2 + (U + x.sz) = 18446744073709551615) := by have := HU.out; show _ = _; omega
                clear hF2
                have hUx := HU2
                clear c1 c2 c3 c4
                go_wp2_with (first
                  | ((with_reducible show wpList _ _ _ ({ dst := some 5, op := Op.alloc 64, type := _, pos := _, after := _, guard := _ } :: _) _ _); refine alA _ rfl 64 rfl _ _ zero_lease ?_; intro g3 w3 hg hs1 k3 e3; have X3 := Lib.hid k3; have E3 := Lib.hid (E0.out.trans e3); have G3 := Lib.hid (show w1.heap.size ≤ g3 from by have := E0.out.size; omega); clear hg hs1 k3 e3 x0 x1)
                  | ((with_reducible show wpList _ _ _ ({ dst := none, op := Op.store 64 _ _, type := _, pos := _, after := _, guard := _ } :: _) _ _); refine stA _ rfl 64 64 _ _ rfl g3 _ (lzV x) rfl rfl X3.out size_lease rfl (lzV_one _) ?_; intro w4 hs k4 g4; have E4 := Lib.hid (E3.out.grown g4 (fun k hk => by injection hk with hk; have := G3.out; omega)); obtain ⟨x0, x1⟩ := lz_cells k4; obtain ⟨a0, a1, a2, a3, a4, a5, a6⟩ := ac_cells (X1.out.ext E4.out); clear a0 a1 a2 a3 a4 a6; have y0 := YC.out _ (E1.out.trans E4.out); clear hs k4 g4))
                go_frame
                go_quiet (fail)
                go_wp2_with fail
                go_roundw
                case rel => exact ⟨k + 1, U + x.sz, x.id, F2, by omega, rfl, by go_num, E4.out.drewN nq, HU2.out, HN.out, fun h => by omega, fun j hj h => HX.out j hj h⟩
                case measure => simp [intOf]; omega
    · have HF : Hid (leasesR a.used 0 a.ls = true) := by
        show _ = _
        rw [Hr.out, List.drop_of_length_le (by omega), leasesR]
      have HR2 : Hid (rightB a = (closedR a.ten 0 a.cl && tenantB a.ten.data.toList && plainB a.bits && decide (a.per ≤ 65536) && decide (a.cl.length = a.per))) := by
        show _ = _
        rw [HR.out, HF.out]; rfl
      clear a1 a2 a3 Hr HL0 HL1 HR HF HU hU
      go_wp2_with fail
      clear a0 a4 a5 a6 hlt hk
      go_loopw [6] (fun i ws => ∃ j : Nat, j ≤ a.cl.length ∧ i = .int .i64 j ∧ Ext w1 ws ∧ closedR a.ten 0 a.cl = closedR a.ten j (a.cl.drop j)) (fun i _ => a.cl.length - (intOf i).toNat)
      case atStart => exact ⟨0, by omega, rfl, E0.out, rfl⟩
      clear E0 F0
      case round =>
        obtain ⟨j, hj, rfl, hE, hr⟩ := hrel
        have Hr := Lib.hid hr
        have E0 := Lib.hid hE
        have F0 := Lib.hid (E1.out.trans hE)
        clear hr hE
        obtain ⟨a0, a1, a2, a3, a4, a5, a6⟩ := ac_cells (X1.out.ext E0.out)
        by_cases hlt : j < a.cl.length
        · clear a1 a2 a3 a4 a5
          obtain ⟨ad, rfl, x0, x1, x2, x3, x4, x5⟩ := (HA.out.2.ext F0.out).six hlt
          have HC := Lib.hid (drop_cons hlt)
          have hx := OK.out.2.2.2.2.2.2.1 _ (List.getElem_mem hlt)
          have k1 : (j : Int) < (a.cl.length : Int) := by omega
          generalize a.cl[j] = x at *
          obtain ⟨z1, z2, z3, z4, z5, z6⟩ := hx
          have HP : Hid (∀ W, Calls Tryd.prog 49 #[.int .u64 x.bits] W fun e w' => e = .returned (.bool (plainB x.bits)) ∧ W = w') := fun W => rplain15 x.bits W z4
          have HD : Hid (∀ W, Calls Tryd.prog 48 #[.int .u64 x.used, .int .u64 x.bits] W (RetT W (.int .u64 (dueV x.used x.bits)) (.bool (prB x.bits)))) := fun W => rdue_calls x.used x.bits W z2 z4
          have HS : Hid (closedR a.ten j (x :: a.cl.drop (j + 1)) = ((prB x.bits && decide (x.due = dueV x.used x.bits) && plainB x.bits && decide (x.ten = a.ten) && decide (x.per = j)) && closedR a.ten (j + 1) (a.cl.drop (j + 1)))) := by show _ = _; rw [closedR]
          have uj : IntKind.u64.wrap (j : Int) = (j : Int) := IntWalk.u64_in _ (by omega)
          by_cases c4 : x.ten = a.ten
          · have q4 : x.ten.toList = a.ten.toList := by rw [c4]
            by_cases c5 : x.per = j
            · have q6 : ((x.per : Int) != (j : Int)) = false := by simp [c5]
              cases c1 : prB x.bits with
              | false =>
                have HF : Hid (closedR a.ten 0 a.cl = false) := by show _ = _; rw [Hr.out, HC.out, HS.out, c1]; rfl
                rw [c1] at HD
                clear c1 c4 c5
                go_wp2_with (first
                  | ((with_reducible show wpList _ _ _ ({ dst := some 7, op := Op.alloc 70, type := _, pos := _, after := _, guard := _ } :: _) _ _); refine alA _ rfl 70 rfl _ _ zero_stmt ?_; intro g5 w5 hg hs1 k5 e5; have X5 := Lib.hid k5; have E5 := Lib.hid (E0.out.trans e5); have G5 := Lib.hid (show w1.heap.size ≤ g5 from by have := E0.out.size; omega); clear hg hs1 k5 e5 x0 x1 x2 x3 x4 x5 a0)
                  | ((with_reducible show wpList _ _ _ ({ dst := none, op := Op.store 70 _ _, type := _, pos := _, after := _, guard := _ } :: _) _ _); refine stA _ rfl 70 70 _ _ rfl g5 _ (stV x) rfl rfl X5.out size_stmt rfl (stV_one _) ?_; intro w6 hs k6 g6; have X6 := Lib.hid k6; have E6 := Lib.hid (E5.out.grown g6 (fun k hk => by injection hk with hk; have := G5.out; omega)); obtain ⟨x0, x1, x2, x3, x4, x5⟩ := st_cells k6; clear hs k6 g6)
                  | (go_at_call 48; refine (HD.out _).mono ?_; rintro e w7 ⟨rfl, e7⟩; have E7 := Lib.hid (E6.out.trans e7); clear x0 x1 x2 x3 x4 x5; obtain ⟨x0, x1, x2, x3, x4, x5⟩ := st_cells (X6.out.ext e7); obtain ⟨a0, a1, a2, a3, a4, a5, a6⟩ := ac_cells (X1.out.ext E7.out); clear e7 a1 a2 a3 a4 a5 a6)
                  | (go_at_call 49; refine (HP.out _).mono ?_; rintro e w8 ⟨rfl, rfl⟩))
                go_ret
                rw [HR2.out, HF.out]
                exact ⟨rfl, E1.out.trans E7.out⟩
              | true =>
                rw [c1] at HD
                by_cases c2 : x.due = dueV x.used x.bits
                · have q2 : ((x.due : Int) != (dueV x.used x.bits : Int)) = false := by simp [c2]
                  cases c3 : plainB x.bits with
                  | false =>
                    have HF : Hid (closedR a.ten 0 a.cl = false) := by show _ = _; rw [Hr.out, HC.out, HS.out, c3]; simp
                    rw [c3] at HP
                    clear c1 c2 c3 c4 c5
                    go_wp2_with (first
                      | ((with_reducible show wpList _ _ _ ({ dst := some 7, op := Op.alloc 70, type := _, pos := _, after := _, guard := _ } :: _) _ _); refine alA _ rfl 70 rfl _ _ zero_stmt ?_; intro g5 w5 hg hs1 k5 e5; have X5 := Lib.hid k5; have E5 := Lib.hid (E0.out.trans e5); have G5 := Lib.hid (show w1.heap.size ≤ g5 from by have := E0.out.size; omega); clear hg hs1 k5 e5 x0 x1 x2 x3 x4 x5 a0)
                      | ((with_reducible show wpList _ _ _ ({ dst := none, op := Op.store 70 _ _, type := _, pos := _, after := _, guard := _ } :: _) _ _); refine stA _ rfl 70 70 _ _ rfl g5 _ (stV x) rfl rfl X5.out size_stmt rfl (stV_one _) ?_; intro w6 hs k6 g6; have X6 := Lib.hid k6; have E6 := Lib.hid (E5.out.grown g6 (fun k hk => by injection hk with hk; have := G5.out; omega)); obtain ⟨x0, x1, x2, x3, x4, x5⟩ := st_cells k6; clear hs k6 g6)
                      | (go_at_call 48; refine (HD.out _).mono ?_; rintro e w7 ⟨rfl, e7⟩; have E7 := Lib.hid (E6.out.trans e7); clear x0 x1 x2 x3 x4 x5; obtain ⟨x0, x1, x2, x3, x4, x5⟩ := st_cells (X6.out.ext e7); obtain ⟨a0, a1, a2, a3, a4, a5, a6⟩ := ac_cells (X1.out.ext E7.out); clear e7 a1 a2 a3 a4 a5 a6)
                      | (go_at_call 49; refine (HP.out _).mono ?_; rintro e w8 ⟨rfl, rfl⟩))
                    go_ret
                    rw [HR2.out, HF.out]
                    exact ⟨rfl, E1.out.trans E7.out⟩
                  | true =>
                    have HN : Hid (closedR a.ten 0 a.cl = closedR a.ten (j + 1) (a.cl.drop (j + 1))) := by
                      show _ = _
                      rw [Hr.out, HC.out, HS.out, c1, c3, decide_eq_true c2, decide_eq_true c4, decide_eq_true c5]; rfl
                    rw [c3] at HP
                    clear c1 c2 c3 c4 c5
                    go_wp2_with (first
                      | ((with_reducible show wpList _ _ _ ({ dst := some 7, op := Op.alloc 70, type := _, pos := _, after := _, guard := _ } :: _) _ _); refine alA _ rfl 70 rfl _ _ zero_stmt ?_; intro g5 w5 hg hs1 k5 e5; have X5 := Lib.hid k5; have E5 := Lib.hid (E0.out.trans e5); have G5 := Lib.hid (show w1.heap.size ≤ g5 from by have := E0.out.size; omega); clear hg hs1 k5 e5 x0 x1 x2 x3 x4 x5 a0)
                      | ((with_reducible show wpList _ _ _ ({ dst := none, op := Op.store 70 _ _, type := _, pos := _, after := _, guard := _ } :: _) _ _); refine stA _ rfl 70 70 _ _ rfl g5 _ (stV x) rfl rfl X5.out size_stmt rfl (stV_one _) ?_; intro w6 hs k6 g6; have X6 := Lib.hid k6; have E6 := Lib.hid (E5.out.grown g6 (fun k hk => by injection hk with hk; have := G5.out; omega)); obtain ⟨x0, x1, x2, x3, x4, x5⟩ := st_cells k6; clear hs k6 g6)
                      | (go_at_call 48; refine (HD.out _).mono ?_; rintro e w7 ⟨rfl, e7⟩; have E7 := Lib.hid (E6.out.trans e7); clear x0 x1 x2 x3 x4 x5; obtain ⟨x0, x1, x2, x3, x4, x5⟩ := st_cells (X6.out.ext e7); obtain ⟨a0, a1, a2, a3, a4, a5, a6⟩ := ac_cells (X1.out.ext E7.out); clear e7 a1 a2 a3 a4 a5 a6)
                      | (go_at_call 49; refine (HP.out _).mono ?_; rintro e w8 ⟨rfl, rfl⟩))
                    go_roundw
                    case rel => exact ⟨j + 1, by omega, by go_num, E7.out, HN.out⟩
                    case measure => simp [intOf]; omega
                · have HF : Hid (closedR a.ten 0 a.cl = false) := by show _ = _; rw [Hr.out, HC.out, HS.out, decide_eq_false c2]; simp
                  have q2 : ((x.due : Int) != (dueV x.used x.bits : Int)) = true := by simp; omega
                  clear c1 c2 c4 c5
                  go_wp2_with (first
                    | ((with_reducible show wpList _ _ _ ({ dst := some 7, op := Op.alloc 70, type := _, pos := _, after := _, guard := _ } :: _) _ _); refine alA _ rfl 70 rfl _ _ zero_stmt ?_; intro g5 w5 hg hs1 k5 e5; have X5 := Lib.hid k5; have E5 := Lib.hid (E0.out.trans e5); have G5 := Lib.hid (show w1.heap.size ≤ g5 from by have := E0.out.size; omega); clear hg hs1 k5 e5 x0 x1 x2 x3 x4 x5 a0)
                    | ((with_reducible show wpList _ _ _ ({ dst := none, op := Op.store 70 _ _, type := _, pos := _, after := _, guard := _ } :: _) _ _); refine stA _ rfl 70 70 _ _ rfl g5 _ (stV x) rfl rfl X5.out size_stmt rfl (stV_one _) ?_; intro w6 hs k6 g6; have X6 := Lib.hid k6; have E6 := Lib.hid (E5.out.grown g6 (fun k hk => by injection hk with hk; have := G5.out; omega)); obtain ⟨x0, x1, x2, x3, x4, x5⟩ := st_cells k6; clear hs k6 g6)
                    | (go_at_call 48; refine (HD.out _).mono ?_; rintro e w7 ⟨rfl, e7⟩; have E7 := Lib.hid (E6.out.trans e7); clear x0 x1 x2 x3 x4 x5; obtain ⟨x0, x1, x2, x3, x4, x5⟩ := st_cells (X6.out.ext e7); obtain ⟨a0, a1, a2, a3, a4, a5, a6⟩ := ac_cells (X1.out.ext E7.out); clear e7 a1 a2 a3 a4 a5 a6)
                    | (go_at_call 49; refine (HP.out _).mono ?_; rintro e w8 ⟨rfl, rfl⟩))
                  go_ret
                  rw [HR2.out, HF.out]
                  exact ⟨rfl, E1.out.trans E7.out⟩
            · have HF : Hid (closedR a.ten 0 a.cl = false) := by show _ = _; rw [Hr.out, HC.out, HS.out, decide_eq_false c5]; simp
              have q6 : ((x.per : Int) != (j : Int)) = true := by simp; omega
              clear c4 c5
              go_wp2_with (first
                | ((with_reducible show wpList _ _ _ ({ dst := some 7, op := Op.alloc 70, type := _, pos := _, after := _, guard := _ } :: _) _ _); refine alA _ rfl 70 rfl _ _ zero_stmt ?_; intro g5 w5 hg hs1 k5 e5; have X5 := Lib.hid k5; have E5 := Lib.hid (E0.out.trans e5); have G5 := Lib.hid (show w1.heap.size ≤ g5 from by have := E0.out.size; omega); clear hg hs1 k5 e5 x0 x1 x2 x3 x4 x5 a0)
                | ((with_reducible show wpList _ _ _ ({ dst := none, op := Op.store 70 _ _, type := _, pos := _, after := _, guard := _ } :: _) _ _); refine stA _ rfl 70 70 _ _ rfl g5 _ (stV x) rfl rfl X5.out size_stmt rfl (stV_one _) ?_; intro w6 hs k6 g6; have X6 := Lib.hid k6; have E6 := Lib.hid (E5.out.grown g6 (fun k hk => by injection hk with hk; have := G5.out; omega)); obtain ⟨x0, x1, x2, x3, x4, x5⟩ := st_cells k6; clear hs k6 g6)
                | (go_at_call 48; refine (HD.out _).mono ?_; rintro e w7 ⟨rfl, e7⟩; have E7 := Lib.hid (E6.out.trans e7); clear x0 x1 x2 x3 x4 x5; obtain ⟨x0, x1, x2, x3, x4, x5⟩ := st_cells (X6.out.ext e7); obtain ⟨a0, a1, a2, a3, a4, a5, a6⟩ := ac_cells (X1.out.ext E7.out); clear e7 a1 a2 a3 a4 a5 a6)
                | (go_at_call 49; refine (HP.out _).mono ?_; rintro e w8 ⟨rfl, rfl⟩))
              go_ret
              rw [HR2.out, HF.out]
              exact ⟨rfl, E1.out.trans E7.out⟩
          · have HF : Hid (closedR a.ten 0 a.cl = false) := by show _ = _; rw [Hr.out, HC.out, HS.out, decide_eq_false c4]; simp
            have q4 : ¬ x.ten.toList = a.ten.toList := by rw [str_eq]; exact c4
            clear c4
            go_wp2_with (first
              | ((with_reducible show wpList _ _ _ ({ dst := some 7, op := Op.alloc 70, type := _, pos := _, after := _, guard := _ } :: _) _ _); refine alA _ rfl 70 rfl _ _ zero_stmt ?_; intro g5 w5 hg hs1 k5 e5; have X5 := Lib.hid k5; have E5 := Lib.hid (E0.out.trans e5); have G5 := Lib.hid (show w1.heap.size ≤ g5 from by have := E0.out.size; omega); clear hg hs1 k5 e5 x0 x1 x2 x3 x4 x5 a0)
              | ((with_reducible show wpList _ _ _ ({ dst := none, op := Op.store 70 _ _, type := _, pos := _, after := _, guard := _ } :: _) _ _); refine stA _ rfl 70 70 _ _ rfl g5 _ (stV x) rfl rfl X5.out size_stmt rfl (stV_one _) ?_; intro w6 hs k6 g6; have X6 := Lib.hid k6; have E6 := Lib.hid (E5.out.grown g6 (fun k hk => by injection hk with hk; have := G5.out; omega)); obtain ⟨x0, x1, x2, x3, x4, x5⟩ := st_cells k6; clear hs k6 g6)
              | (go_at_call 48; refine (HD.out _).mono ?_; rintro e w7 ⟨rfl, e7⟩; have E7 := Lib.hid (E6.out.trans e7); clear x0 x1 x2 x3 x4 x5; obtain ⟨x0, x1, x2, x3, x4, x5⟩ := st_cells (X6.out.ext e7); obtain ⟨a0, a1, a2, a3, a4, a5, a6⟩ := ac_cells (X1.out.ext E7.out); clear e7 a1 a2 a3 a4 a5 a6)
              | (go_at_call 49; refine (HP.out _).mono ?_; rintro e w8 ⟨rfl, rfl⟩))
            go_ret
            rw [HR2.out, HF.out]
            exact ⟨rfl, E1.out.trans E7.out⟩
        · have HF2 : Hid (closedR a.ten 0 a.cl = true) := by
            show _ = _
            rw [Hr.out, List.drop_of_length_le (by omega), closedR]
          have HR3 : Hid (rightB a = (tenantB a.ten.data.toList && plainB a.bits && decide (a.per ≤ 65536) && decide (a.cl.length = a.per))) := by
            show _ = _
            rw [HR2.out, HF2.out]; rfl
          clear HR2 HF2 Hr a1 a2 a5
          have u6 : IntKind.u64.wrap (a.cl.length : Int) = (a.cl.length : Int) := IntWalk.u64_in _ (by omega)
          go_wp2_with fail
          refine (rtenant_calls a.ten _ b2).mono ?_
          rintro e w' ⟨rfl, rfl⟩
          cases ht : tenantB a.ten.data.toList with
          | false =>
            have HF : Hid (rightB a = false) := by show _ = _; rw [HR3.out, ht]; rfl
            clear ht
            go_wp2_with fail
            go_ret
            rw [HF.out]
            exact ⟨rfl, F0.out⟩
          | true =>
            have Ht := Lib.hid ht
            clear ht
            go_wp2_with fail
            refine (rplain15 a.bits _ b1).mono ?_
            rintro e w' ⟨rfl, rfl⟩
            cases hp : plainB a.bits with
            | false =>
              have HF : Hid (rightB a = false) := by show _ = _; rw [HR3.out, hp]; simp
              clear hp
              go_wp2_with fail
              go_ret
              rw [HF.out]
              exact ⟨rfl, F0.out⟩
            | true =>
              have HR4 : Hid (rightB a = (decide (a.per ≤ 65536) && decide (a.cl.length = a.per))) := by show _ = _; rw [HR3.out, Ht.out, hp]; rfl
              clear hp HR3 Ht
              by_cases p1 : a.per ≤ 65536
              · have HF : Hid (rightB a = ((a.cl.length : Int) == (a.per : Int))) := by
                  show _ = _
                  rw [HR4.out, decide_eq_true p1, Bool.true_and, Bool.eq_iff_iff]; simp; omega
                have q1 : decide ((a.per : Int) ≤ 65536) = true := by simp; omega
                clear p1
                go_wp2_with fail
                go_ret
                rw [HF.out]
                exact ⟨rfl, F0.out⟩
              · have HF : Hid (rightB a = false) := by show _ = _; rw [HR4.out, decide_eq_false p1]; rfl
                have q1 : decide ((a.per : Int) ≤ 65536) = false := by simp; omega
                clear p1
                go_wp2_with fail
                go_ret
                rw [HF.out]
                exact ⟨rfl, F0.out⟩
end Go.Proofs.YtkbjnlbbfapgdaaDoor
