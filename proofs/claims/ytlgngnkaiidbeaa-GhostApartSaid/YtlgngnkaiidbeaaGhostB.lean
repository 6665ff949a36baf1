/- cmp.Compare of strings and numbers; ghost.compare; the place of a ghost. -/
import Derived.Test.YtlgngnkaiidbeaaGhostA
import Derived.Deep.RegionHeld3
import Derived.Test.YtlgngnkaiidbeaaQuietE
set_option maxRecDepth 100000
set_option linter.unusedVariables false
set_option linter.unusedSimpArgs false
namespace Go.Proofs.Ytlgngnkaiidbeaa
open Go.RowKit

theorem eq_cB (a b : ByteArray) : (a.toList == b.toList) = decide (cB a.data.toList b.data.toList = 0) := by
  rw [ByteArray.toList_eq, ByteArray.toList_eq, Bool.eq_iff_iff]
  simp only [beq_iff_eq, decide_eq_true_eq]
  exact ⟨fun h => by rw [h]; exact cB_self _, fun h => cB_zero h⟩
theorem cmpS_calls (a b : ByteArray) (w : World) : Calls Try.prog 107 #[.string a, .string b] w fun e w' => e = .returned (.int .i64 (cB a.data.toList b.data.toList)) ∧ w = w' := by
  have hab := cB_cases a.data.toList b.data.toList
  have l1 : Op.bytesLess a.toList b.toList = decide (cB a.data.toList b.data.toList < 0) := by rw [ByteArray.toList_eq, ByteArray.toList_eq]; exact less_cB _ _
  have l2 := eq_cB a b
  have o1 : (a.toList != a.toList) = false := by simp
  have o2 : (b.toList != b.toList) = false := by simp
  generalize cB a.data.toList b.data.toList = v at *
  rcases hab with h | h | h
  · rw [show decide (v < 0) = true from decide_eq_true (by omega)] at l1
    rw [show decide (v = 0) = false from decide_eq_false (by omega)] at l2
    have E := Lib.hid h
    clear h
    go_enter Try.func107, Try.ntmps107
    go_wp2
    go_ret
    exact ⟨by rw [E.out]; rfl, rfl⟩
  · rw [show decide (v < 0) = false from decide_eq_false (by omega)] at l1
    rw [show decide (v = 0) = true from decide_eq_true (by omega)] at l2
    have E := Lib.hid h
    clear h
    go_enter Try.func107, Try.ntmps107
    go_wp2
    go_ret
    exact ⟨by rw [E.out]; rfl, rfl⟩
  · rw [show decide (v < 0) = false from decide_eq_false (by omega)] at l1
    rw [show decide (v = 0) = false from decide_eq_false (by omega)] at l2
    have E := Lib.hid h
    clear h
    go_enter Try.func107, Try.ntmps107
    go_wp2
    go_ret
    exact ⟨by rw [E.out]; rfl, rfl⟩
theorem cmpU_calls (a b : Nat) (w : World) : Calls Try.prog 108 #[.int .u64 (a : Int), .int .u64 (b : Int)] w fun e w' => e = .returned (.int .i64 (cP a b)) ∧ w = w' := by
  have o1 : ((a : Int) != (a : Int)) = false := by simp
  have o2 : ((b : Int) != (b : Int)) = false := by simp
  by_cases h1 : a < b
  · have E : Hid (cP a b = -1) := by show _ = _; unfold cP; rw [if_pos h1]
    have k1 : (a : Int) < (b : Int) := by omega
    go_enter Try.func108, Try.ntmps108
    go_wp2
    go_ret
    exact ⟨by rw [E.out]; rfl, rfl⟩
  · have k1 : ¬ (a : Int) < (b : Int) := by omega
    by_cases h2 : b < a
    · have E : Hid (cP a b = 1) := by show _ = _; unfold cP; rw [if_neg h1, if_pos h2]
      have k2 : (b : Int) < (a : Int) := by omega
      go_enter Try.func108, Try.ntmps108
      go_wp2
      go_ret
      exact ⟨by rw [E.out]; rfl, rfl⟩
    · have E : Hid (cP a b = 0) := by show _ = _; unfold cP; rw [if_neg h1, if_neg h2]
      have k2 : ¬ (b : Int) < (a : Int) := by omega
      go_enter Try.func108, Try.ntmps108
      go_wp2
      go_ret
      exact ⟨by rw [E.out]; rfl, rfl⟩
theorem orL_cG (x y : GK) : orL [cB x.1.data.toList y.1.data.toList, cP x.2 y.2] = cG x y := by
  unfold cG
  show (if cB x.1.data.toList y.1.data.toList = 0 then (if cP x.2 y.2 = 0 then 0 else cP x.2 y.2) else _) = _
  split
  · split <;> simp_all
  · rfl
set_option maxHeartbeats 2000000 in
theorem gcmp_calls (x y : Gh) (w : World) : Calls Try.prog 75 #[.agg (ghV x), .agg (ghV y)] w (RetV w (.int .i64 (cG x.k y.k))) := by
  have HO : Hid (∀ W g, Arr W g 3 #[.int .i64 (cB x.t.data.toList y.t.data.toList), .int .i64 (cP x.p y.p)] → Calls Try.prog 95 #[.slice (some ⟨g, 0, none⟩) 2 2] W fun e w' => e = .returned (.int .i64 (cG x.k y.k)) ∧ W = w') :=
    fun W g h => by
      have h2 := orI_calls [cB x.t.data.toList y.t.data.toList, cP x.p y.p] (some ⟨g, 0, none⟩) 2 W (by simp) (by simp) h.rd
      rw [show orL [cB x.t.data.toList y.t.data.toList, cP x.p y.p] = cG x.k y.k from orL_cG x.k y.k] at h2
      exact h2
  have HS : Hid (∀ W, Calls Try.prog 107 #[.string x.t, .string y.t] W fun e w' => e = .returned (.int .i64 (cB x.t.data.toList y.t.data.toList)) ∧ W = w') := fun W => cmpS_calls x.t y.t W
  have HU : Hid (∀ W, Calls Try.prog 108 #[.int .u64 (x.p : Int), .int .u64 (y.p : Int)] W fun e w' => e = .returned (.int .i64 (cP x.p y.p)) ∧ W = w') := fun W => cmpU_calls x.p y.p W
  generalize cG x.k y.k = V at *
  generalize cB x.t.data.toList y.t.data.toList = v1 at *
  generalize cP x.p y.p = v2 at *
  unfold ghV
  go_enter Try.func75, Try.ntmps75
  go_wp2_with (first
    | ((with_reducible show wpList _ _ _ ({ dst := some 2, op := Op.box 50 _, type := _, pos := _, after := _, guard := _ } :: _) _ _); refine bxA _ rfl 50 _ rfl (ghV x) rfl ?_; intro g1 w1 hg hs1 k1 e1; have X1 := Lib.hid k1; have E1 := Lib.hid e1; clear hg hs1 k1 e1)
    | ((with_reducible show wpList _ _ _ ({ dst := some 3, op := Op.box 50 _, type := _, pos := _, after := _, guard := _ } :: _) _ _); refine bxA _ rfl 50 _ rfl (ghV y) rfl ?_; intro g2 w2 hg hs1 k1 e1; have X2 := Lib.hid (X1.out.ext e1); have Y2 := Lib.hid k1; have E2 := Lib.hid (E1.out.trans e1); clear hg hs1 k1 e1))
  have KS : Hid (∀ w', Ext w2 w' → Ext w2 w' ∧ w'.cell? ⟨g1, 0, none⟩ = some (.string x.t) ∧ w'.cell? ⟨g1, 1, none⟩ = some (.int .u64 (x.p : Int)) ∧ w'.cell? ⟨g2, 0, none⟩ = some (.string y.t) ∧ w'.cell? ⟨g2, 1, none⟩ = some (.int .u64 (y.p : Int))) :=
    fun w' e => ⟨e, (X2.out.ext e).cell_some rfl, (X2.out.ext e).cell_some rfl, (Y2.out.ext e).cell_some rfl, (Y2.out.ext e).cell_some rfl⟩
  go_region_held3 (fun w' => Ext w2 w' ∧ w'.cell? ⟨g1, 0, none⟩ = some (.string x.t) ∧ w'.cell? ⟨g1, 1, none⟩ = some (.int .u64 (x.p : Int)) ∧ w'.cell? ⟨g2, 0, none⟩ = some (.string y.t) ∧ w'.cell? ⟨g2, 1, none⟩ = some (.int .u64 (y.p : Int)))
    (first | exact KS.out _ (Ext.refl _).drew | exact KS.out _ ((Ext.refl _).alloc _).drew | exact KS.out _ ((Ext.refl _).drew.alloc _) | exact KS.out _ (Ext.alloc (by assumption) _) | exact KS.out _ (by assumption))
    (first | (go_at_call 107; refine (HS.out _).mono ?_; rintro e w5 ⟨rfl, rfl⟩) | (go_at_call 108; refine (HU.out _).mono ?_; rintro e w5 ⟨rfl, rfl⟩) | (go_at_call 95; refine (HO.out _ _ (by first | exact (Arr.new w2 _ _).drew | exact Arr.new w2 _ _ | exact Arr.new w2.drew _ _)).mono ?_; rintro e w5 ⟨rfl, rfl⟩))
  go_wp2_with fail
  go_ret
  exact ⟨rfl, E2.out.trans (by first | exact ((Ext.refl _).alloc _).drew | assumption)⟩
set_option maxHeartbeats 4000000 in
theorem bsearchG_calls (A : Option Addr) (c : Nat) (xs : List Gh) (k : GK) (w : World) (hb : RdE Gh.cs w A xs) (hl : xs.length ≤ 100000) (hr : Rz xs) :
    Calls Try.prog 109 #[.slice A xs.length c, .agg (ghV (ghNone k)), .func (.func 75) #[] #[]] w (RetV w (.tuple #[.int .i64 (posG xs k), .bool (thG xs k)])) := by
  have HB := Lib.hid hb
  have HP : Hid (∀ i (hi : i < xs.length), (cG xs[i].k k < 0 → i < posG xs k) ∧ (¬ cG xs[i].k k < 0 → posG xs k ≤ i)) := by
    intro i hi
    obtain ⟨h1, h2⟩ := posG_split hr k
    refine ⟨fun h => ?_, fun h => ?_⟩
    · rcases Nat.lt_or_ge i (posG xs k) with h3 | h3
      · exact h3
      · have := h2 i hi h3; omega
    · rcases Nat.lt_or_ge i (posG xs k) with h3 | h3
      · have := h1 i hi h3; omega
      · exact h3
  have HT : Hid (∀ hp : posG xs k < xs.length, thG xs k = decide (cG (xs[posG xs k]).k k = 0)) := fun hp => thG_eq hr k hp
  have HN : Hid (¬ posG xs k < xs.length → thG xs k = false) := by
    intro h
    cases ht : thG xs k with
    | false => rfl
    | true => obtain ⟨hp, _⟩ := (thG_iff hr k).1 ht; exact absurd hp h
  have hle : posG xs k ≤ xs.length := posG_le xs k
  have hk : ghNone k = ⟨k.1, k.2, 0, 0, 0⟩ := rfl
  clear hb hr
  have HCC : Hid (∀ (x : Gh) (W : World), Calls Try.prog 75 #[.agg (ghV x), .agg (ghV (ghNone k))] W (RetV W (.int .i64 (cG x.k k)))) := fun x W => gcmp_calls x (ghNone k) W
  generalize posG xs k = p at *
  generalize thG xs k = th at *
  have eg : ∀ args w, (callFunc 75 args).run Try.prog w = .ok (.enter 75 args) w := enters_of Try.func75 (by kernel_rfl) rfl
  clear hk
  generalize ghNone k = y at *
  unfold ghV at *
  go_enter Try.func109, Try.ntmps109
  go_wp2_with ((with_reducible show wpList _ _ _ ({ dst := some 4, op := Op.box 50 _, type := _, pos := _, after := _, guard := _ } :: _) _ _); refine bxA _ rfl 50 _ rfl (ghV y) rfl ?_; intro g1 w1 hg hs1 k1 e1; have X1 := Lib.hid k1; have E1 := Lib.hid e1; clear hg hs1 k1 e1)
  go_loopw [9, 10] (fun i j wr => ∃ I J : Nat, i = .int .i64 I ∧ j = .int .i64 J ∧ I ≤ p ∧ p ≤ J ∧ J ≤ xs.length ∧ Ext w1 wr) (fun i j _ => (intOf j - intOf i).toNat)
  case atStart => exact ⟨0, xs.length, rfl, rfl, by omega, hle, Nat.le_refl _, Ext.refl _⟩
  case round =>
    obtain ⟨I, J, rfl, rfl, h1, h2, h3, hE⟩ := hrel
    have E0 := Lib.hid hE
    clear hE
    by_cases hlt : I < J
    · obtain ⟨m, hm⟩ : ∃ m, m = (I + J) / 2 := ⟨_, rfl⟩
      have hm1 : I ≤ m := by omega
      have hm2 : m < J := by omega
      have hmx : m < xs.length := by omega
      have u1 : IntKind.i64.wrap ((I : Int) + J) = (I : Int) + J := IntWalk.i64_in _ (by omega)
      have u2 : IntKind.u64.wrap ((I : Int) + J) = (I : Int) + J := IntWalk.u64_in _ (by omega)
      have um : ((I : Int) + J) / 2 = (m : Int) := by omega
      clear hm
      have HXC := Lib.hid (RdE.fiveW HB.out hmx)
      obtain ⟨ad, rfl, hxc⟩ := HXC.out
      have HXD := Lib.hid hxc
      clear hxc HXC
      have hk1 : (m : Int) < (xs.length : Int) := by omega
      have HPm := Lib.hid (HP.out m hmx)
      have HC2 : Hid (∀ W, Ext wr W → _) := fun W _ => HCC.out xs[m] W
      generalize xs[m] = x at *
      generalize cG x.k k = v at *
      have KS : Hid (∀ W, Ext wr W → _ ∧ _) := fun W e => ⟨HXD.out W (E1.out.trans (E0.out.trans e)), gh_cells (X1.out.ext (E0.out.trans e))⟩
      have um1 : IntKind.i64.wrap ((m : Int) + 1) = (m : Int) + 1 := IntWalk.i64_in _ (by omega)
      by_cases hv : v < 0
      · have hmp := HPm.out.1 hv
        have qv : decide (v < 0) = true := decide_eq_true hv
        go_wp2_with fail
        refine wp_region_quietE wr (Ext.refl _) (by kernel_rfl) (by kernel_rfl) ?_
        repeat (first | (apply wpq_skip; (focus rfl); (try simp only [Act.put, List.setIfInBounds_toArray, List.set_cons_zero, List.set_cons_succ])) | ((with_reducible show QGoal _ _ _ _ ({ dst := _, op := Op.call { callee := Callee.value _, args := _, argTypes := _ }, type := _, pos := _, after := _, guard := _ } :: _) _); apply wpq_call (hc := HC2.out); (focus rfl); (focus (intro W hW; go_simp; (first | done | with_reducible rfl))); (try simp only [Act.put, List.setIfInBounds_toArray, List.set_cons_zero, List.set_cons_succ])) | (apply wpq_take; (focus rfl); (focus (intro W hW; obtain ⟨⟨x0, x1, x2, x3, x4⟩, ⟨y0, y1, y2, y3, y4⟩⟩ := KS.out W hW; go_simp; (first | done | with_reducible rfl))); (try simp only [Act.put, List.setIfInBounds_toArray, List.set_cons_zero, List.set_cons_succ])))
        refine wpq_nil ?_
        intro w2 e2
        have E2 := Lib.hid (E0.out.trans e2)
        clear e2
        go_wp2_with fail
        go_roundw
        case rel => exact ⟨m + 1, J, by go_num, rfl, by omega, h2, h3, E2.out⟩
        case measure => simp [intOf]; omega
      · have hmp := HPm.out.2 (by omega)
        have qv : decide (v < 0) = false := decide_eq_false hv
        go_wp2_with fail
        refine wp_region_quietE wr (Ext.refl _) (by kernel_rfl) (by kernel_rfl) ?_
        repeat (first | (apply wpq_skip; (focus rfl); (try simp only [Act.put, List.setIfInBounds_toArray, List.set_cons_zero, List.set_cons_succ])) | ((with_reducible show QGoal _ _ _ _ ({ dst := _, op := Op.call { callee := Callee.value _, args := _, argTypes := _ }, type := _, pos := _, after := _, guard := _ } :: _) _); apply wpq_call (hc := HC2.out); (focus rfl); (focus (intro W hW; go_simp; (first | done | with_reducible rfl))); (try simp only [Act.put, List.setIfInBounds_toArray, List.set_cons_zero, List.set_cons_succ])) | (apply wpq_take; (focus rfl); (focus (intro W hW; obtain ⟨⟨x0, x1, x2, x3, x4⟩, ⟨y0, y1, y2, y3, y4⟩⟩ := KS.out W hW; go_simp; (first | done | with_reducible rfl))); (try simp only [Act.put, List.setIfInBounds_toArray, List.set_cons_zero, List.set_cons_succ])))
        refine wpq_nil ?_
        intro w2 e2
        have E2 := Lib.hid (E0.out.trans e2)
        clear e2
        go_wp2_with fail
        go_roundw
        case rel => exact ⟨I, m, rfl, rfl, h1, hmp, by omega, E2.out⟩
        case measure => simp [intOf]; omega
    · obtain rfl : I = p := by omega
      by_cases hp : I < xs.length
      · have HXC := Lib.hid (RdE.fiveW HB.out hp)
        obtain ⟨ad, rfl, hxc⟩ := HXC.out
        have HXD := Lib.hid hxc
        have k9 : (I : Int) < (xs.length : Int) := by omega
        clear hxc HXC
        have HF := Lib.hid (HT.out hp)
        have HC2 : Hid (∀ W, Ext wr W → _) := fun W _ => HCC.out xs[I] W
        clear HT HN HP
        generalize xs[I] = x at *
        generalize cG x.k k = v at *
        have KS : Hid (∀ W, Ext wr W → _ ∧ _) := fun W e => ⟨HXD.out W (E1.out.trans (E0.out.trans e)), gh_cells (X1.out.ext (E0.out.trans e))⟩
        go_wp2_with fail
        refine wp_region_quietE wr (Ext.refl _) (by kernel_rfl) (by kernel_rfl) ?_
        repeat (first | (apply wpq_skip; (focus rfl); (try simp only [Act.put, List.setIfInBounds_toArray, List.set_cons_zero, List.set_cons_succ])) | ((with_reducible show QGoal _ _ _ _ ({ dst := _, op := Op.call { callee := Callee.value _, args := _, argTypes := _ }, type := _, pos := _, after := _, guard := _ } :: _) _); apply wpq_call (hc := HC2.out); (focus rfl); (focus (intro W hW; go_simp; (first | done | with_reducible rfl))); (try simp only [Act.put, List.setIfInBounds_toArray, List.set_cons_zero, List.set_cons_succ])) | (apply wpq_take; (focus rfl); (focus (intro W hW; obtain ⟨⟨x0, x1, x2, x3, x4⟩, ⟨y0, y1, y2, y3, y4⟩⟩ := KS.out W hW; go_simp; (first | done | with_reducible rfl))); (try simp only [Act.put, List.setIfInBounds_toArray, List.set_cons_zero, List.set_cons_succ])))
        refine wpq_nil ?_
        intro w2 e2
        have E2 := Lib.hid (E0.out.trans e2)
        clear e2
        go_wp2_with fail
        go_ret2
        rw [HF.out]
        refine ⟨?_, E1.out.trans E2.out⟩
        congr 1
      · have HF := Lib.hid (HN.out hp)
        clear HT HN HP
        have k9 : ¬ (I : Int) < (xs.length : Int) := by omega
        have HC2 : Hid (∀ W, Ext wr W → _) := fun W _ => HCC.out ⟨ByteArray.empty, 0, 0, 0, 0⟩ W
        have KS : Hid (∀ W, Ext wr W → (True ∧ True ∧ True ∧ True ∧ True) ∧ _) := fun W e => ⟨⟨trivial, trivial, trivial, trivial, trivial⟩, gh_cells (X1.out.ext (E0.out.trans e))⟩
        go_wp2_with fail
        refine wp_region_quietE wr (Ext.refl _) (by kernel_rfl) (by kernel_rfl) ?_
        repeat (first | (apply wpq_skip; (focus rfl); (try simp only [Act.put, List.setIfInBounds_toArray, List.set_cons_zero, List.set_cons_succ])) | ((with_reducible show QGoal _ _ _ _ ({ dst := _, op := Op.call { callee := Callee.value _, args := _, argTypes := _ }, type := _, pos := _, after := _, guard := _ } :: _) _); apply wpq_call (hc := HC2.out); (focus rfl); (focus (intro W hW; go_simp; (first | done | with_reducible rfl))); (try simp only [Act.put, List.setIfInBounds_toArray, List.set_cons_zero, List.set_cons_succ])) | (apply wpq_take; (focus rfl); (focus (intro W hW; obtain ⟨⟨x0, x1, x2, x3, x4⟩, ⟨y0, y1, y2, y3, y4⟩⟩ := KS.out W hW; go_simp; (first | done | with_reducible rfl))); (try simp only [Act.put, List.setIfInBounds_toArray, List.set_cons_zero, List.set_cons_succ])))
        refine wpq_nil ?_
        intro w2 e2
        have E2 := Lib.hid (E0.out.trans e2)
        clear e2
        go_wp2_with fail
        go_ret2
        rw [HF.out]
        exact ⟨rfl, E1.out.trans E2.out⟩
end Go.Proofs.Ytlgngnkaiidbeaa
