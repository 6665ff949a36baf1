/- GhostApart, walked. -/
import Derived.Test.YtlgngnkaiidbeaaGhostG
set_option maxRecDepth 100000
set_option linter.unusedVariables false
set_option linter.unusedSimpArgs false
namespace Go.Proofs.Ytlgngnkaiidbeaa
open Go.RowKit
set_option maxHeartbeats 16000000 in
theorem ghostApart_walk (A : Option Addr) (c : Nat) (xs : List Gh) (s : Sg) (o : Gh) (w : World) (hb : RdE Gh.cs w A xs) (hok : ∀ x ∈ xs, x.ok) (hlm : xs.length ≤ 9223372036854775807) (hn0 : A = none → c = 0) (hp : s.p < 18446744073709551616) (hn : s.n < 18446744073709551616) :
    Calls Try.prog 6 #[.slice A xs.length c, .agg (sgV s), .agg (ghV o)] w (RetV w (.bool true)) := by
  have HB := Lib.hid hb
  have HOK := Lib.hid hok
  have HN0 := Lib.hid hn0
  have HPN : Hid (s.p < 18446744073709551616 ∧ s.n < 18446744073709551616) := ⟨hp, hn⟩
  clear hb hok hn0 hp hn
  obtain ⟨sk, st, sp, sn⟩ := s
  obtain ⟨ot, op, os, oc, ol⟩ := o
  dsimp only at HPN
  unfold sgV ghV
  by_cases h60 : 60 < xs.length
  · have k60 : (60 : Int) < (xs.length : Int) := by omega
    clear h60 hlm
    go_enter Try.func6, Try.ntmps6
    go_wp2_with (first | ((with_reducible show wpList _ _ _ ({ dst := some 4, op := Op.box 48 _, type := _, pos := _, after := _, guard := _ } :: _) _ _); refine bxA _ rfl 48 _ rfl (sgV ⟨sk, st, sp, sn⟩) rfl ?_; intro g4 w4 hg hs1 k1 e1; have X4 := Lib.hid k1; have E4 := Lib.hid e1; clear hg hs1 k1 e1) | ((with_reducible show wpList _ _ _ ({ dst := some 5, op := Op.box 50 _, type := _, pos := _, after := _, guard := _ } :: _) _ _); refine bxA _ rfl 50 _ rfl (ghV ⟨ot, op, os, oc, ol⟩) rfl ?_; intro g5 w5 hg hs1 k1 e1; have X5 := Lib.hid k1; have Y5 := Lib.hid (X4.out.ext e1); have E5 := Lib.hid (E4.out.trans e1); obtain ⟨x0, x1, x2, x3⟩ := sg_cells Y5.out; obtain ⟨y0, y1, y2, y3, y4⟩ := gh_cells k1; clear hg hs1 k1 e1))
    (refine (awake37 _).mono ?_; rintro e wz ⟨rfl, ez⟩; have EZ := Lib.hid ((E5.out).trans ez); clear ez; go_wp2_with fail; go_ret; exact ⟨rfl, EZ.out⟩)
  have k60 : ¬ (60 : Int) < (xs.length : Int) := by omega
  have hl : xs.length ≤ 60 := by omega
  clear h60 hlm
  by_cases hst : 100 < st.size
  · go_enter Try.func6, Try.ntmps6
    go_wp2_with (first | ((with_reducible show wpList _ _ _ ({ dst := some 4, op := Op.box 48 _, type := _, pos := _, after := _, guard := _ } :: _) _ _); refine bxA _ rfl 48 _ rfl (sgV ⟨sk, st, sp, sn⟩) rfl ?_; intro g4 w4 hg hs1 k1 e1; have X4 := Lib.hid k1; have E4 := Lib.hid e1; clear hg hs1 k1 e1) | ((with_reducible show wpList _ _ _ ({ dst := some 5, op := Op.box 50 _, type := _, pos := _, after := _, guard := _ } :: _) _ _); refine bxA _ rfl 50 _ rfl (ghV ⟨ot, op, os, oc, ol⟩) rfl ?_; intro g5 w5 hg hs1 k1 e1; have X5 := Lib.hid k1; have Y5 := Lib.hid (X4.out.ext e1); have E5 := Lib.hid (E4.out.trans e1); obtain ⟨x0, x1, x2, x3⟩ := sg_cells Y5.out; obtain ⟨y0, y1, y2, y3, y4⟩ := gh_cells k1; clear hg hs1 k1 e1) | (go_at_call 29; refine (rlargeS_one _ st _ ((Arr.new w5 _ _).cell_some rfl)).mono ?_; rintro e w6 ⟨rfl, rfl⟩; rw [decide_eq_true hst]))
    (refine (awake37 _).mono ?_; rintro e wz ⟨rfl, ez⟩; have EZ := Lib.hid ((E5.out.trans ((Ext.refl _).alloc _)).trans ez); clear ez; go_wp2_with fail; go_ret; exact ⟨rfl, EZ.out⟩)
  by_cases hot : 100 < ot.size
  · have k1 : (100 : Int) < (ot.size : Int) := by omega
    go_enter Try.func6, Try.ntmps6
    go_wp2_with (first | ((with_reducible show wpList _ _ _ ({ dst := some 4, op := Op.box 48 _, type := _, pos := _, after := _, guard := _ } :: _) _ _); refine bxA _ rfl 48 _ rfl (sgV ⟨sk, st, sp, sn⟩) rfl ?_; intro g4 w4 hg hs1 k1 e1; have X4 := Lib.hid k1; have E4 := Lib.hid e1; clear hg hs1 k1 e1) | ((with_reducible show wpList _ _ _ ({ dst := some 5, op := Op.box 50 _, type := _, pos := _, after := _, guard := _ } :: _) _ _); refine bxA _ rfl 50 _ rfl (ghV ⟨ot, op, os, oc, ol⟩) rfl ?_; intro g5 w5 hg hs1 k1 e1; have X5 := Lib.hid k1; have Y5 := Lib.hid (X4.out.ext e1); have E5 := Lib.hid (E4.out.trans e1); obtain ⟨x0, x1, x2, x3⟩ := sg_cells Y5.out; obtain ⟨y0, y1, y2, y3, y4⟩ := gh_cells k1; clear hg hs1 k1 e1) | (go_at_call 29; refine (rlargeS_one _ st _ ((Arr.new w5 _ _).cell_some rfl)).mono ?_; rintro e w6 ⟨rfl, rfl⟩; rw [decide_eq_false hst]; obtain ⟨z0, z1, z2, z3, z4⟩ := gh_cells (X5.out.ext ((Ext.refl w5).alloc (.cells #[.int .i64 sk, .string st, .int .u64 (sp : Int), .int .u64 (sn : Int)] 48)))))
    (refine (awake37 _).mono ?_; rintro e wz ⟨rfl, ez⟩; have EZ := Lib.hid ((E5.out.trans ((Ext.refl _).alloc _)).trans ez); clear ez; go_wp2_with fail; go_ret; exact ⟨rfl, EZ.out⟩)
  have k1 : ¬ (100 : Int) < (ot.size : Int) := by omega
  go_enter Try.func6, Try.ntmps6
  go_wp2_with (first | ((with_reducible show wpList _ _ _ ({ dst := some 4, op := Op.box 48 _, type := _, pos := _, after := _, guard := _ } :: _) _ _); refine bxA _ rfl 48 _ rfl (sgV ⟨sk, st, sp, sn⟩) rfl ?_; intro g4 w4 hg hs1 k1 e1; have X4 := Lib.hid k1; have E4 := Lib.hid e1; clear hg hs1 k1 e1) | ((with_reducible show wpList _ _ _ ({ dst := some 5, op := Op.box 50 _, type := _, pos := _, after := _, guard := _ } :: _) _ _); refine bxA _ rfl 50 _ rfl (ghV ⟨ot, op, os, oc, ol⟩) rfl ?_; intro g5 w5 hg hs1 k1 e1; have X5 := Lib.hid k1; have Y5 := Lib.hid (X4.out.ext e1); have E5 := Lib.hid (E4.out.trans e1); obtain ⟨x0, x1, x2, x3⟩ := sg_cells Y5.out; obtain ⟨y0, y1, y2, y3, y4⟩ := gh_cells k1; clear hg hs1 k1 e1) | (go_at_call 29; refine (rlargeS_one _ st _ ((Arr.new w5 _ _).cell_some rfl)).mono ?_; rintro e w6 ⟨rfl, rfl⟩; rw [decide_eq_false hst]; obtain ⟨z0, z1, z2, z3, z4⟩ := gh_cells (X5.out.ext ((Ext.refl w5).alloc (.cells #[.int .i64 sk, .string st, .int .u64 (sp : Int), .int .u64 (sn : Int)] 48)))))
  have e6 := (Ext.refl w5).alloc (.cells (sgV ⟨sk, st, sp, sn⟩) 48)
  obtain ⟨w6, hw6⟩ : ∃ v, v = w5.alloc (.cells #[.int .i64 sk, .string st, .int .u64 (sp : Int), .int .u64 (sn : Int)] 48) := ⟨_, rfl⟩
  rw [← hw6]
  have E6 : Hid (Ext w w6) := by show Ext _ _; rw [hw6]; exact E5.out.trans e6
  have X6 : Hid (Arr w6 g5 50 (ghV ⟨ot, op, os, oc, ol⟩)) := by show Arr _ _ _ _; rw [hw6]; exact X5.out.ext e6
  have Y6 : Hid (Arr w6 g4 48 (sgV ⟨sk, st, sp, sn⟩)) := by show Arr _ _ _ _; rw [hw6]; exact Y5.out.ext e6
  clear x0 x1 x2 x3 y0 y1 y2 y3 y4 z0 z1 z2 z3 z4 e6 hw6 X5 Y5 E5 X4 E4 k1 hot
  go_loopw [7] (fun i wr => ∃ k : Nat, k ≤ xs.length ∧ i = .int .i64 (k : Int) ∧ w6 = wr) (fun i _ => xs.length - (intOf i).toNat)
  case atStart => exact ⟨0, by omega, rfl, rfl⟩
  case round =>
    obtain ⟨k, hk, rfl, rfl⟩ := hrel
    by_cases hlt : k < xs.length
    · have k1 : (k : Int) < (xs.length : Int) := by omega
      obtain ⟨ad, rfl, z0, z1, z2, z3, z4⟩ := RdE.five (RdE.ext HB.out E6.out) hlt
      generalize xs[k] = x at *
      by_cases hxt : 100 < x.t.size
      · have k2 : (100 : Int) < (x.t.size : Int) := by omega
        go_wp2_with fail
        (refine (awake37 _).mono ?_; rintro e wz ⟨rfl, ez⟩; have EZ := Lib.hid ((E6.out).trans ez); clear ez; go_wp2_with fail; go_ret; exact ⟨rfl, EZ.out⟩)
      · have k2 : ¬ (100 : Int) < (x.t.size : Int) := by omega
        go_wp2_with fail
        go_roundw
        case rel => exact ⟨k + 1, by omega, by go_num, trivial⟩
        case measure => simp [intOf]; omega
    have k1 : ¬ (k : Int) < (xs.length : Int) := by omega
    have HGR : Hid (∀ W, Ext w W → Calls Try.prog 31 #[.slice A xs.length c] W (RetV W (.bool (riseG xs)))) := fun W e => grise_calls A c xs W (RdE.ext HB.out e) (by omega)
    have HRR : Hid (∀ W, Ext w W → Calls Try.prog 32 #[.slice A xs.length c] W (RetV W (.bool (riseG xs)))) := fun W e => rrise_calls A c xs W (RdE.ext HB.out e) (by omega)
    clear hlt hk
    have EC := E6
    have XC := X6
    have YC := Y6
    clear E6 X6 Y6
    cases hrz : riseG xs with
    | false =>
      rw [hrz] at HGR HRR
      clear hrz
      go_wp2_with (first
        | (go_at_call 31; refine (HGR.out _ EC.out).mono ?_; rintro e wn ⟨rfl, en⟩; have EC := Lib.hid (EC.out.trans en); have XC := Lib.hid (XC.out.ext en); have YC := Lib.hid (YC.out.ext en); clear en)
        | (go_at_call 32; refine (HRR.out _ EC.out).mono ?_; rintro e wn ⟨rfl, en⟩; have EC := Lib.hid (EC.out.trans en); have XC := Lib.hid (XC.out.ext en); have YC := Lib.hid (YC.out.ext en); clear en; obtain ⟨x0, x1, x2, x3⟩ := sg_cells YC.out; obtain ⟨y0, y1, y2, y3, y4⟩ := gh_cells XC.out))
      (refine (awake37 _).mono ?_; rintro e wz ⟨rfl, ez⟩; have EZ := Lib.hid ((EC.out).trans ez); clear ez; go_wp2_with fail; go_ret; exact ⟨rfl, EZ.out⟩)
    | true =>
      rw [hrz] at HGR HRR
      have HRZ := Lib.hid ((rise_iff xs).1 hrz)
      clear hrz
      by_cases h4 : sk = 4
      · have q4 : (sk == 4) = true := by simp [h4]
        clear h4
        go_wp2_with (first
          | (go_at_call 31; refine (HGR.out _ EC.out).mono ?_; rintro e wn ⟨rfl, en⟩; have EC := Lib.hid (EC.out.trans en); have XC := Lib.hid (XC.out.ext en); have YC := Lib.hid (YC.out.ext en); clear en)
          | (go_at_call 32; refine (HRR.out _ EC.out).mono ?_; rintro e wn ⟨rfl, en⟩; have EC := Lib.hid (EC.out.trans en); have XC := Lib.hid (XC.out.ext en); have YC := Lib.hid (YC.out.ext en); clear en; obtain ⟨x0, x1, x2, x3⟩ := sg_cells YC.out; obtain ⟨y0, y1, y2, y3, y4⟩ := gh_cells XC.out))
        (refine (awake37 _).mono ?_; rintro e wz ⟨rfl, ez⟩; have EZ := Lib.hid ((EC.out).trans ez); clear ez; go_wp2_with fail; go_ret; exact ⟨rfl, EZ.out⟩)
      have q4 : (sk == 4) = false := by simpa using h4
      by_cases ht : ot = st
      · by_cases hpp : op = sp
        · subst ht hpp
          clear h4
          go_wp2_with (first
            | (go_at_call 31; refine (HGR.out _ EC.out).mono ?_; rintro e wn ⟨rfl, en⟩; have EC := Lib.hid (EC.out.trans en); have XC := Lib.hid (XC.out.ext en); have YC := Lib.hid (YC.out.ext en); clear en)
            | (go_at_call 32; refine (HRR.out _ EC.out).mono ?_; rintro e wn ⟨rfl, en⟩; have EC := Lib.hid (EC.out.trans en); have XC := Lib.hid (XC.out.ext en); have YC := Lib.hid (YC.out.ext en); clear en; obtain ⟨x0, x1, x2, x3⟩ := sg_cells YC.out; obtain ⟨y0, y1, y2, y3, y4⟩ := gh_cells XC.out))
          (refine (awake37 _).mono ?_; rintro e wz ⟨rfl, ez⟩; have EZ := Lib.hid ((EC.out).trans ez); clear ez; go_wp2_with fail; go_ret; exact ⟨rfl, EZ.out⟩)
        · have q5 : ((op : Int) == (sp : Int)) = false := by simp; omega
          have HNE : Hid ((st, sp) ≠ (ot, op)) := fun e => hpp (by injection e with _ e2; exact e2.symm)
          subst ht
          have HDO : Hid (∀ W, Ext w W → Calls Try.prog 34 #[.slice A xs.length c, .agg #[.int .i64 sk, .string ot, .int .u64 (sp : Int), .int .u64 (sn : Int)]] W (RetRd W (doG xs ⟨sk, ot, sp, sn⟩))) := fun W e => do_calls A c xs ⟨sk, ot, sp, sn⟩ W (RdE.ext HB.out e) (by omega) HRZ.out HN0.out HOK.out HPN.out.1 HPN.out.2 h4
          have HLK : Hid (lookG (doG xs ⟨sk, ot, sp, sn⟩) (ot, op) = lookG xs (ot, op)) := doG_look HRZ.out _ HNE.out
          have HDL := Lib.hid (doG_len xs ⟨sk, ot, sp, sn⟩)
          have HGF : Hid (∀ (W : World) (A' : Option Addr) (c' : Nat), RdE Gh.cs W A' (doG xs ⟨sk, ot, sp, sn⟩) → Calls Try.prog 33 #[.slice A' (doG xs ⟨sk, ot, sp, sn⟩).length c', .string ot, .int .u64 (op : Int)] W (RetV W (.agg (ghV (lookG (doG xs ⟨sk, ot, sp, sn⟩) (ot, op)))))) := fun W A' c' h => gfind_calls A' c' _ (ot, op) W h (by have := HDL.out; omega) (doG_rz HRZ.out _)
          have HRF : Hid (∀ W, Ext w W → Calls Try.prog 35 #[.slice A xs.length c, .string ot, .int .u64 (op : Int)] W (RetV W (.agg (ghV (lookG xs (ot, op)))))) := fun W e => rfindG_calls A c xs ot op W (RdE.ext HB.out e) (by omega)
          rw [HLK.out] at HGF
          have HEQ : ∀ W, (binOp .eql 50 (.agg (ghV (lookG xs (ot, op)))) (.agg (ghV (lookG xs (ot, op))))).run Try.prog W = .ok (.bool true) W := fun W => eqlGh _ W
          clear HLK HDL h4
          generalize lookG xs (ot, op) = V at *
          generalize doG xs ⟨sk, ot, sp, sn⟩ = ys at *
          obtain ⟨vt, vp, vs, vc, vl⟩ := V
          unfold ghV at HGF HRF HEQ
          dsimp only at HGF HRF HEQ
          go_wp2_with (first
            | (go_at_call 31; refine (HGR.out _ EC.out).mono ?_; rintro e wn ⟨rfl, en⟩; have EC := Lib.hid (EC.out.trans en); have XC := Lib.hid (XC.out.ext en); have YC := Lib.hid (YC.out.ext en); clear en)
            | (go_at_call 32; refine (HRR.out _ EC.out).mono ?_; rintro e wn ⟨rfl, en⟩; have EC := Lib.hid (EC.out.trans en); have XC := Lib.hid (XC.out.ext en); have YC := Lib.hid (YC.out.ext en); clear en; obtain ⟨x0, x1, x2, x3⟩ := sg_cells YC.out; obtain ⟨y0, y1, y2, y3, y4⟩ := gh_cells XC.out))
          have KS : Hid (∀ W, Ext wn W → Ext wn W ∧ (W.cell? ⟨g4, 0, none⟩ = some (.int .i64 sk) ∧ W.cell? ⟨g4, 1, none⟩ = some (.string ot) ∧ W.cell? ⟨g4, 2, none⟩ = some (.int .u64 (sp : Int)) ∧ W.cell? ⟨g4, 3, none⟩ = some (.int .u64 (sn : Int))) ∧ W.cell? ⟨g5, 0, none⟩ = some (.string ot) ∧ W.cell? ⟨g5, 1, none⟩ = some (.int .u64 (op : Int))) := fun W e => ⟨e, sg_cells (YC.out.ext e), (gh_cells (XC.out.ext e)).1, (gh_cells (XC.out.ext e)).2.1⟩
          clear x0 x1 x2 x3 y0 y1 y2 y3 y4 HGR HRR
          refine wp_region_held_drew (S := fun W => Ext wn W ∧ (W.cell? ⟨g4, 0, none⟩ = some (.int .i64 sk) ∧ W.cell? ⟨g4, 1, none⟩ = some (.string ot) ∧ W.cell? ⟨g4, 2, none⟩ = some (.int .u64 (sp : Int)) ∧ W.cell? ⟨g4, 3, none⟩ = some (.int .u64 (sn : Int))) ∧ W.cell? ⟨g5, 0, none⟩ = some (.string ot) ∧ W.cell? ⟨g5, 1, none⟩ = some (.int .u64 (op : Int))) (by kernel_rfl) (KS.out _ (Ext.refl _).drew) (fun hHeld => ?_)
          (refine wpAnyH_take (i := 0) (oi := { dst := some 65, op := _, type := _, pos := _, after := _, guard := _ }) (v := ?_) rfl (by kernel_rfl) (by kernel_rfl) (by kernel_rfl) (fun _ _ _ h => h) (Or.inl ⟨by rfl, ?_⟩) (by assumption) ?_; rotate_left; (focus (intro w hSw; (try dsimp only at hSw); go_simp; (first | done | with_reducible rfl); done)); (try simp only [Act.put, List.setIfInBounds_toArray, List.set_cons_zero, List.set_cons_succ]); refine wpAnyH_take (i := 1) (oi := { dst := some 66, op := _, type := _, pos := _, after := _, guard := _ }) (v := ?_) rfl (by kernel_rfl) (by kernel_rfl) (by kernel_rfl) (fun _ _ _ h => h) (Or.inl ⟨by rfl, ?_⟩) (by assumption) ?_; rotate_left; (focus (intro w hSw; (try dsimp only at hSw); go_simp; (first | done | with_reducible rfl); done)); (try simp only [Act.put, List.setIfInBounds_toArray, List.set_cons_zero, List.set_cons_succ]); refine wpAnyH_take (i := 3) (oi := { dst := some 68, op := _, type := _, pos := _, after := _, guard := _ }) (v := ?_) rfl (by kernel_rfl) (by kernel_rfl) (by kernel_rfl) (fun _ _ _ h => h) (Or.inl ⟨by rfl, ?_⟩) (by assumption) ?_; rotate_left; (focus (intro w hSw; (try dsimp only at hSw); go_simp; (first | done | with_reducible rfl); done)); (try simp only [Act.put, List.setIfInBounds_toArray, List.set_cons_zero, List.set_cons_succ]); refine wpAnyH_take (i := 4) (oi := { dst := some 69, op := _, type := _, pos := _, after := _, guard := _ }) (v := ?_) rfl (by kernel_rfl) (by kernel_rfl) (by kernel_rfl) (fun _ _ _ h => h) (Or.inl ⟨by rfl, ?_⟩) (by assumption) ?_; rotate_left; (focus (intro w hSw; (try dsimp only at hSw); go_simp; (first | done | with_reducible rfl); done)); (try simp only [Act.put, List.setIfInBounds_toArray, List.set_cons_zero, List.set_cons_succ]); refine wpAnyH_take (i := 5) (oi := { dst := some 70, op := _, type := _, pos := _, after := _, guard := _ }) (v := ?_) rfl (by kernel_rfl) (by kernel_rfl) (by kernel_rfl) (fun _ _ _ h => h) (Or.inl ⟨by rfl, ?_⟩) (by assumption) ?_; rotate_left; (focus (intro w hSw; (try dsimp only at hSw); go_simp; (first | done | with_reducible rfl); done)); (try simp only [Act.put, List.setIfInBounds_toArray, List.set_cons_zero, List.set_cons_succ]); refine wpAnyH_take (i := 6) (oi := { dst := some 71, op := _, type := _, pos := _, after := _, guard := _ }) (v := ?_) rfl (by kernel_rfl) (by kernel_rfl) (by kernel_rfl) (fun _ _ _ h => h) (Or.inl ⟨by rfl, ?_⟩) (by assumption) ?_; rotate_left; (focus (intro w hSw; (try dsimp only at hSw); go_simp; (first | done | with_reducible rfl); done)); (try simp only [Act.put, List.setIfInBounds_toArray, List.set_cons_zero, List.set_cons_succ]); refine wpAnyH_take (i := 8) (oi := { dst := some 73, op := _, type := _, pos := _, after := _, guard := _ }) (v := ?_) rfl (by kernel_rfl) (by kernel_rfl) (by kernel_rfl) (fun _ _ _ h => h) (Or.inl ⟨by rfl, ?_⟩) (by assumption) ?_; rotate_left; (focus (intro w hSw; (try dsimp only at hSw); go_simp; (first | done | with_reducible rfl); done)); (try simp only [Act.put, List.setIfInBounds_toArray, List.set_cons_zero, List.set_cons_succ]); refine wpAnyH_take (i := 9) (oi := { dst := some 74, op := _, type := _, pos := _, after := _, guard := _ }) (v := ?_) rfl (by kernel_rfl) (by kernel_rfl) (by kernel_rfl) (fun _ _ _ h => h) (Or.inl ⟨by rfl, ?_⟩) (by assumption) ?_; rotate_left; (focus (intro w hSw; (try dsimp only at hSw); go_simp; (first | done | with_reducible rfl); done)); (try simp only [Act.put, List.setIfInBounds_toArray, List.set_cons_zero, List.set_cons_succ]); refine wpAnyH_take (i := 10) (oi := { dst := some 75, op := _, type := _, pos := _, after := _, guard := _ }) (v := ?_) rfl (by kernel_rfl) (by kernel_rfl) (by kernel_rfl) (fun _ _ _ h => h) (Or.inl ⟨by rfl, ?_⟩) (by assumption) ?_; rotate_left; (focus (intro w hSw; (try dsimp only at hSw); go_simp; (first | done | with_reducible rfl); done)); (try simp only [Act.put, List.setIfInBounds_toArray, List.set_cons_zero, List.set_cons_succ]); refine wpAnyH_take (i := 11) (oi := { dst := some 76, op := _, type := _, pos := _, after := _, guard := _ }) (v := ?_) rfl (by kernel_rfl) (by kernel_rfl) (by kernel_rfl) (fun _ _ _ h => h) (Or.inl ⟨by rfl, ?_⟩) (by assumption) ?_; rotate_left; (focus (intro w hSw; (try dsimp only at hSw); go_simp; (first | done | with_reducible rfl); done)); (try simp only [Act.put, List.setIfInBounds_toArray, List.set_cons_zero, List.set_cons_succ]); refine wpAnyH_take (i := 12) (oi := { dst := some 77, op := _, type := _, pos := _, after := _, guard := _ }) (v := ?_) rfl (by kernel_rfl) (by kernel_rfl) (by kernel_rfl) (fun _ _ _ h => h) (Or.inl ⟨by rfl, ?_⟩) (by assumption) ?_; rotate_left; (focus (intro w hSw; (try dsimp only at hSw); go_simp; (first | done | with_reducible rfl); done)); (try simp only [Act.put, List.setIfInBounds_toArray, List.set_cons_zero, List.set_cons_succ]))
          (refine wpAnyH_ready (rs := [2]) (by kernel_rfl) (by simp) ?_; refine AllReadyH.cons (o := { dst := some 67, op := _, type := _, pos := _, after := _, guard := _ }) rfl (fun K hK => ?_) AllReadyH.nil; go_simp)
          refine (HDO.out _ (EC.out.trans hHeld.1)).mono ?_
          rintro e v1 ⟨A1, c1, rfl, r1, z1⟩
          have T1 : Ext wn v1 := Ext.trans hHeld.1 z1
          have R1 := Lib.hid r1
          clear z1 r1
          go_wp2_with fail; refine hK.out _ _ (KS.out _ T1) (fun hHeld => ?_); clear hK K; (try simp only [Act.put, List.setIfInBounds_toArray, List.set_cons_zero, List.set_cons_succ])
          (refine wpAnyH_ready (rs := [7]) (by kernel_rfl) (by simp) ?_; refine AllReadyH.cons (o := { dst := some 72, op := _, type := _, pos := _, after := _, guard := _ }) rfl (fun K hK => ?_) AllReadyH.nil; go_simp)
          refine (HGF.out _ A1 c1 R1.out).mono ?_
          rintro e v2 ⟨rfl, z2⟩
          have T2 : Ext wn v2 := Ext.trans hHeld.1 z2
          clear z2
          go_wp2_with fail; refine hK.out _ _ (KS.out _ T2) (fun hHeld => ?_); clear hK K; (try simp only [Act.put, List.setIfInBounds_toArray, List.set_cons_zero, List.set_cons_succ])
          (refine wpAnyH_ready (rs := [13]) (by kernel_rfl) (by simp) ?_; refine AllReadyH.cons (o := { dst := some 78, op := _, type := _, pos := _, after := _, guard := _ }) rfl (fun K hK => ?_) AllReadyH.nil; go_simp)
          refine (HRF.out _ (EC.out.trans hHeld.1)).mono ?_
          rintro e v3 ⟨rfl, z3⟩
          have T3 : Ext wn v3 := Ext.trans hHeld.1 z3
          clear z3
          go_wp2_with fail; refine hK.out _ _ (KS.out _ T3) (fun hHeld => ?_); clear hK K; (try simp only [Act.put, List.setIfInBounds_toArray, List.set_cons_zero, List.set_cons_succ])
          (refine wpAnyH_take (i := 14) (oi := { dst := some 79, op := _, type := _, pos := _, after := _, guard := _ }) (v := ?_) rfl (by kernel_rfl) (by kernel_rfl) (by kernel_rfl) (fun _ _ _ h => h) (Or.inl ⟨by rfl, ?_⟩) (by assumption) ?_; rotate_left; (focus (intro w hSw; (try dsimp only at hSw); go_simp; (first | done | with_reducible rfl); done)); (try simp only [Act.put, List.setIfInBounds_toArray, List.set_cons_zero, List.set_cons_succ]); refine wpAnyH_take (i := 15) (oi := { dst := some 80, op := _, type := _, pos := _, after := _, guard := _ }) (v := ?_) rfl (by kernel_rfl) (by kernel_rfl) (by kernel_rfl) (fun _ _ _ h => h) (Or.inl ⟨by rfl, ?_⟩) (by assumption) ?_; rotate_left; (focus (intro w hSw; (try dsimp only at hSw); go_simp; (first | done | with_reducible rfl); done)); (try simp only [Act.put, List.setIfInBounds_toArray, List.set_cons_zero, List.set_cons_succ]))
          (refine wpAnyH_ready (rs := [16]) (by kernel_rfl) (by simp) ?_; refine AllReadyH.cons (o := { dst := some 81, op := _, type := _, pos := _, after := _, guard := _ }) rfl (fun K hK => ?_) AllReadyH.nil; go_simp)
          refine (awake37 _).mono ?_
          rintro e v4 ⟨rfl, z4⟩
          have T4 : Ext wn v4 := Ext.trans hHeld.1 z4
          clear z4
          go_wp2_with fail; refine hK.out _ _ (KS.out _ T4) (fun hHeld => ?_); clear hK K; (try simp only [Act.put, List.setIfInBounds_toArray, List.set_cons_zero, List.set_cons_succ])
          (refine wpAnyH_take (i := 17) (oi := { dst := some 82, op := _, type := _, pos := _, after := _, guard := _ }) (v := ?_) rfl (by kernel_rfl) (by kernel_rfl) (by kernel_rfl) (fun _ _ _ h => h) (Or.inl ⟨by rfl, ?_⟩) (by assumption) ?_; rotate_left; (focus (intro w hSw; (try dsimp only at hSw); go_simp; (first | done | with_reducible rfl); done)); (try simp only [Act.put, List.setIfInBounds_toArray, List.set_cons_zero, List.set_cons_succ]))
          (refine wpAnyH_take (i := 18) (oi := { dst := some 6, op := _, type := _, pos := _, after := _, guard := _ }) (v := ?_) rfl (by kernel_rfl) (by kernel_rfl) (by kernel_rfl) (fun _ _ _ h => h) (Or.inl ⟨by rfl, ?_⟩) (by assumption) ?_; rotate_left; (focus (intro w hSw; (try dsimp only at hSw); go_simp; (first | done | with_reducible rfl); done)); (try simp only [Act.put, List.setIfInBounds_toArray, List.set_cons_zero, List.set_cons_succ]))
          refine wpAnyH_done (by kernel_rfl) ?_ _
          have E9 := Lib.hid (EC.out.trans hHeld.1)
          clear hHeld KS
          go_wp2_with fail
          go_ret
          exact ⟨rfl, E9.out⟩
      · have q5 : (ot.toList == st.toList) = false := by simpa using fun e => ht (ba_eq.1 e)
        have q6 : ¬ ot.toList = st.toList := fun e => ht (ba_eq.1 e)
        have HNE : Hid ((st, sp) ≠ (ot, op)) := fun e => ht (by injection e with e2 _; exact e2.symm)
        clear ht
        have HDO : Hid (∀ W, Ext w W → Calls Try.prog 34 #[.slice A xs.length c, .agg #[.int .i64 sk, .string st, .int .u64 (sp : Int), .int .u64 (sn : Int)]] W (RetRd W (doG xs ⟨sk, st, sp, sn⟩))) := fun W e => do_calls A c xs ⟨sk, st, sp, sn⟩ W (RdE.ext HB.out e) (by omega) HRZ.out HN0.out HOK.out HPN.out.1 HPN.out.2 h4
        have HLK : Hid (lookG (doG xs ⟨sk, st, sp, sn⟩) (ot, op) = lookG xs (ot, op)) := doG_look HRZ.out _ HNE.out
        have HDL := Lib.hid (doG_len xs ⟨sk, st, sp, sn⟩)
        have HGF : Hid (∀ (W : World) (A' : Option Addr) (c' : Nat), RdE Gh.cs W A' (doG xs ⟨sk, st, sp, sn⟩) → Calls Try.prog 33 #[.slice A' (doG xs ⟨sk, st, sp, sn⟩).length c', .string ot, .int .u64 (op : Int)] W (RetV W (.agg (ghV (lookG (doG xs ⟨sk, st, sp, sn⟩) (ot, op)))))) := fun W A' c' h => gfind_calls A' c' _ (ot, op) W h (by have := HDL.out; omega) (doG_rz HRZ.out _)
        have HRF : Hid (∀ W, Ext w W → Calls Try.prog 35 #[.slice A xs.length c, .string ot, .int .u64 (op : Int)] W (RetV W (.agg (ghV (lookG xs (ot, op)))))) := fun W e => rfindG_calls A c xs ot op W (RdE.ext HB.out e) (by omega)
        rw [HLK.out] at HGF
        have HEQ : ∀ W, (binOp .eql 50 (.agg (ghV (lookG xs (ot, op)))) (.agg (ghV (lookG xs (ot, op))))).run Try.prog W = .ok (.bool true) W := fun W => eqlGh _ W
        clear HLK HDL h4
        generalize lookG xs (ot, op) = V at *
        generalize doG xs ⟨sk, st, sp, sn⟩ = ys at *
        obtain ⟨vt, vp, vs, vc, vl⟩ := V
        unfold ghV at HGF HRF HEQ
        dsimp only at HGF HRF HEQ
        go_wp2_with (first
          | (go_at_call 31; refine (HGR.out _ EC.out).mono ?_; rintro e wn ⟨rfl, en⟩; have EC := Lib.hid (EC.out.trans en); have XC := Lib.hid (XC.out.ext en); have YC := Lib.hid (YC.out.ext en); clear en)
          | (go_at_call 32; refine (HRR.out _ EC.out).mono ?_; rintro e wn ⟨rfl, en⟩; have EC := Lib.hid (EC.out.trans en); have XC := Lib.hid (XC.out.ext en); have YC := Lib.hid (YC.out.ext en); clear en; obtain ⟨x0, x1, x2, x3⟩ := sg_cells YC.out; obtain ⟨y0, y1, y2, y3, y4⟩ := gh_cells XC.out))
        have KS : Hid (∀ W, Ext wn W → Ext wn W ∧ (W.cell? ⟨g4, 0, none⟩ = some (.int .i64 sk) ∧ W.cell? ⟨g4, 1, none⟩ = some (.string st) ∧ W.cell? ⟨g4, 2, none⟩ = some (.int .u64 (sp : Int)) ∧ W.cell? ⟨g4, 3, none⟩ = some (.int .u64 (sn : Int))) ∧ W.cell? ⟨g5, 0, none⟩ = some (.string ot) ∧ W.cell? ⟨g5, 1, none⟩ = some (.int .u64 (op : Int))) := fun W e => ⟨e, sg_cells (YC.out.ext e), (gh_cells (XC.out.ext e)).1, (gh_cells (XC.out.ext e)).2.1⟩
        clear x0 x1 x2 x3 y0 y1 y2 y3 y4 HGR HRR
        refine wp_region_held_drew (S := fun W => Ext wn W ∧ (W.cell? ⟨g4, 0, none⟩ = some (.int .i64 sk) ∧ W.cell? ⟨g4, 1, none⟩ = some (.string st) ∧ W.cell? ⟨g4, 2, none⟩ = some (.int .u64 (sp : Int)) ∧ W.cell? ⟨g4, 3, none⟩ = some (.int .u64 (sn : Int))) ∧ W.cell? ⟨g5, 0, none⟩ = some (.string ot) ∧ W.cell? ⟨g5, 1, none⟩ = some (.int .u64 (op : Int))) (by kernel_rfl) (KS.out _ (Ext.refl _).drew) (fun hHeld => ?_)
        (refine wpAnyH_take (i := 0) (oi := { dst := some 65, op := _, type := _, pos := _, after := _, guard := _ }) (v := ?_) rfl (by kernel_rfl) (by kernel_rfl) (by kernel_rfl) (fun _ _ _ h => h) (Or.inl ⟨by rfl, ?_⟩) (by assumption) ?_; rotate_left; (focus (intro w hSw; (try dsimp only at hSw); go_simp; (first | done | with_reducible rfl); done)); (try simp only [Act.put, List.setIfInBounds_toArray, List.set_cons_zero, List.set_cons_succ]); refine wpAnyH_take (i := 1) (oi := { dst := some 66, op := _, type := _, pos := _, after := _, guard := _ }) (v := ?_) rfl (by kernel_rfl) (by kernel_rfl) (by kernel_rfl) (fun _ _ _ h => h) (Or.inl ⟨by rfl, ?_⟩) (by assumption) ?_; rotate_left; (focus (intro w hSw; (try dsimp only at hSw); go_simp; (first | done | with_reducible rfl); done)); (try simp only [Act.put, List.setIfInBounds_toArray, List.set_cons_zero, List.set_cons_succ]); refine wpAnyH_take (i := 3) (oi := { dst := some 68, op := _, type := _, pos := _, after := _, guard := _ }) (v := ?_) rfl (by kernel_rfl) (by kernel_rfl) (by kernel_rfl) (fun _ _ _ h => h) (Or.inl ⟨by rfl, ?_⟩) (by assumption) ?_; rotate_left; (focus (intro w hSw; (try dsimp only at hSw); go_simp; (first | done | with_reducible rfl); done)); (try simp only [Act.put, List.setIfInBounds_toArray, List.set_cons_zero, List.set_cons_succ]); refine wpAnyH_take (i := 4) (oi := { dst := some 69, op := _, type := _, pos := _, after := _, guard := _ }) (v := ?_) rfl (by kernel_rfl) (by kernel_rfl) (by kernel_rfl) (fun _ _ _ h => h) (Or.inl ⟨by rfl, ?_⟩) (by assumption) ?_; rotate_left; (focus (intro w hSw; (try dsimp only at hSw); go_simp; (first | done | with_reducible rfl); done)); (try simp only [Act.put, List.setIfInBounds_toArray, List.set_cons_zero, List.set_cons_succ]); refine wpAnyH_take (i := 5) (oi := { dst := some 70, op := _, type := _, pos := _, after := _, guard := _ }) (v := ?_) rfl (by kernel_rfl) (by kernel_rfl) (by kernel_rfl) (fun _ _ _ h => h) (Or.inl ⟨by rfl, ?_⟩) (by assumption) ?_; rotate_left; (focus (intro w hSw; (try dsimp only at hSw); go_simp; (first | done | with_reducible rfl); done)); (try simp only [Act.put, List.setIfInBounds_toArray, List.set_cons_zero, List.set_cons_succ]); refine wpAnyH_take (i := 6) (oi := { dst := some 71, op := _, type := _, pos := _, after := _, guard := _ }) (v := ?_) rfl (by kernel_rfl) (by kernel_rfl) (by kernel_rfl) (fun _ _ _ h => h) (Or.inl ⟨by rfl, ?_⟩) (by assumption) ?_; rotate_left; (focus (intro w hSw; (try dsimp only at hSw); go_simp; (first | done | with_reducible rfl); done)); (try simp only [Act.put, List.setIfInBounds_toArray, List.set_cons_zero, List.set_cons_succ]); refine wpAnyH_take (i := 8) (oi := { dst := some 73, op := _, type := _, pos := _, after := _, guard := _ }) (v := ?_) rfl (by kernel_rfl) (by kernel_rfl) (by kernel_rfl) (fun _ _ _ h => h) (Or.inl ⟨by rfl, ?_⟩) (by assumption) ?_; rotate_left; (focus (intro w hSw; (try dsimp only at hSw); go_simp; (first | done | with_reducible rfl); done)); (try simp only [Act.put, List.setIfInBounds_toArray, List.set_cons_zero, List.set_cons_succ]); refine wpAnyH_take (i := 9) (oi := { dst := some 74, op := _, type := _, pos := _, after := _, guard := _ }) (v := ?_) rfl (by kernel_rfl) (by kernel_rfl) (by kernel_rfl) (fun _ _ _ h => h) (Or.inl ⟨by rfl, ?_⟩) (by assumption) ?_; rotate_left; (focus (intro w hSw; (try dsimp only at hSw); go_simp; (first | done | with_reducible rfl); done)); (try simp only [Act.put, List.setIfInBounds_toArray, List.set_cons_zero, List.set_cons_succ]); refine wpAnyH_take (i := 10) (oi := { dst := some 75, op := _, type := _, pos := _, after := _, guard := _ }) (v := ?_) rfl (by kernel_rfl) (by kernel_rfl) (by kernel_rfl) (fun _ _ _ h => h) (Or.inl ⟨by rfl, ?_⟩) (by assumption) ?_; rotate_left; (focus (intro w hSw; (try dsimp only at hSw); go_simp; (first | done | with_reducible rfl); done)); (try simp only [Act.put, List.setIfInBounds_toArray, List.set_cons_zero, List.set_cons_succ]); refine wpAnyH_take (i := 11) (oi := { dst := some 76, op := _, type := _, pos := _, after := _, guard := _ }) (v := ?_) rfl (by kernel_rfl) (by kernel_rfl) (by kernel_rfl) (fun _ _ _ h => h) (Or.inl ⟨by rfl, ?_⟩) (by assumption) ?_; rotate_left; (focus (intro w hSw; (try dsimp only at hSw); go_simp; (first | done | with_reducible rfl); done)); (try simp only [Act.put, List.setIfInBounds_toArray, List.set_cons_zero, List.set_cons_succ]); refine wpAnyH_take (i := 12) (oi := { dst := some 77, op := _, type := _, pos := _, after := _, guard := _ }) (v := ?_) rfl (by kernel_rfl) (by kernel_rfl) (by kernel_rfl) (fun _ _ _ h => h) (Or.inl ⟨by rfl, ?_⟩) (by assumption) ?_; rotate_left; (focus (intro w hSw; (try dsimp only at hSw); go_simp; (first | done | with_reducible rfl); done)); (try simp only [Act.put, List.setIfInBounds_toArray, List.set_cons_zero, List.set_cons_succ]))
        (refine wpAnyH_ready (rs := [2]) (by kernel_rfl) (by simp) ?_; refine AllReadyH.cons (o := { dst := some 67, op := _, type := _, pos := _, after := _, guard := _ }) rfl (fun K hK => ?_) AllReadyH.nil; go_simp)
        refine (HDO.out _ (EC.out.trans hHeld.1)).mono ?_
        rintro e v1 ⟨A1, c1, rfl, r1, z1⟩
        have T1 : Ext wn v1 := Ext.trans hHeld.1 z1
        have R1 := Lib.hid r1
        clear z1 r1
        go_wp2_with fail; refine hK.out _ _ (KS.out _ T1) (fun hHeld => ?_); clear hK K; (try simp only [Act.put, List.setIfInBounds_toArray, List.set_cons_zero, List.set_cons_succ])
        (refine wpAnyH_ready (rs := [7]) (by kernel_rfl) (by simp) ?_; refine AllReadyH.cons (o := { dst := some 72, op := _, type := _, pos := _, after := _, guard := _ }) rfl (fun K hK => ?_) AllReadyH.nil; go_simp)
        refine (HGF.out _ A1 c1 R1.out).mono ?_
        rintro e v2 ⟨rfl, z2⟩
        have T2 : Ext wn v2 := Ext.trans hHeld.1 z2
        clear z2
        go_wp2_with fail; refine hK.out _ _ (KS.out _ T2) (fun hHeld => ?_); clear hK K; (try simp only [Act.put, List.setIfInBounds_toArray, List.set_cons_zero, List.set_cons_succ])
        (refine wpAnyH_ready (rs := [13]) (by kernel_rfl) (by simp) ?_; refine AllReadyH.cons (o := { dst := some 78, op := _, type := _, pos := _, after := _, guard := _ }) rfl (fun K hK => ?_) AllReadyH.nil; go_simp)
        refine (HRF.out _ (EC.out.trans hHeld.1)).mono ?_
        rintro e v3 ⟨rfl, z3⟩
        have T3 : Ext wn v3 := Ext.trans hHeld.1 z3
        clear z3
        go_wp2_with fail; refine hK.out _ _ (KS.out _ T3) (fun hHeld => ?_); clear hK K; (try simp only [Act.put, List.setIfInBounds_toArray, List.set_cons_zero, List.set_cons_succ])
        (refine wpAnyH_take (i := 14) (oi := { dst := some 79, op := _, type := _, pos := _, after := _, guard := _ }) (v := ?_) rfl (by kernel_rfl) (by kernel_rfl) (by kernel_rfl) (fun _ _ _ h => h) (Or.inl ⟨by rfl, ?_⟩) (by assumption) ?_; rotate_left; (focus (intro w hSw; (try dsimp only at hSw); go_simp; (first | done | with_reducible rfl); done)); (try simp only [Act.put, List.setIfInBounds_toArray, List.set_cons_zero, List.set_cons_succ]); refine wpAnyH_take (i := 15) (oi := { dst := some 80, op := _, type := _, pos := _, after := _, guard := _ }) (v := ?_) rfl (by kernel_rfl) (by kernel_rfl) (by kernel_rfl) (fun _ _ _ h => h) (Or.inl ⟨by rfl, ?_⟩) (by assumption) ?_; rotate_left; (focus (intro w hSw; (try dsimp only at hSw); go_simp; (first | done | with_reducible rfl); done)); (try simp only [Act.put, List.setIfInBounds_toArray, List.set_cons_zero, List.set_cons_succ]))
        (refine wpAnyH_ready (rs := [16]) (by kernel_rfl) (by simp) ?_; refine AllReadyH.cons (o := { dst := some 81, op := _, type := _, pos := _, after := _, guard := _ }) rfl (fun K hK => ?_) AllReadyH.nil; go_simp)
        refine (awake37 _).mono ?_
        rintro e v4 ⟨rfl, z4⟩
        have T4 : Ext wn v4 := Ext.trans hHeld.1 z4
        clear z4
        go_wp2_with fail; refine hK.out _ _ (KS.out _ T4) (fun hHeld => ?_); clear hK K; (try simp only [Act.put, List.setIfInBounds_toArray, List.set_cons_zero, List.set_cons_succ])
        (refine wpAnyH_take (i := 17) (oi := { dst := some 82, op := _, type := _, pos := _, after := _, guard := _ }) (v := ?_) rfl (by kernel_rfl) (by kernel_rfl) (by kernel_rfl) (fun _ _ _ h => h) (Or.inl ⟨by rfl, ?_⟩) (by assumption) ?_; rotate_left; (focus (intro w hSw; (try dsimp only at hSw); go_simp; (first | done | with_reducible rfl); done)); (try simp only [Act.put, List.setIfInBounds_toArray, List.set_cons_zero, List.set_cons_succ]))
        (refine wpAnyH_take (i := 18) (oi := { dst := some 6, op := _, type := _, pos := _, after := _, guard := _ }) (v := ?_) rfl (by kernel_rfl) (by kernel_rfl) (by kernel_rfl) (fun _ _ _ h => h) (Or.inl ⟨by rfl, ?_⟩) (by assumption) ?_; rotate_left; (focus (intro w hSw; (try dsimp only at hSw); go_simp; (first | done | with_reducible rfl); done)); (try simp only [Act.put, List.setIfInBounds_toArray, List.set_cons_zero, List.set_cons_succ]))
        refine wpAnyH_done (by kernel_rfl) ?_ _
        have E9 := Lib.hid (EC.out.trans hHeld.1)
        clear hHeld KS
        go_wp2_with fail
        go_ret
        exact ⟨rfl, E9.out⟩
end Go.Proofs.Ytlgngnkaiidbeaa
