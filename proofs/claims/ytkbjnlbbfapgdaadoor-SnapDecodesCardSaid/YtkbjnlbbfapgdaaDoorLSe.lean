/- The law SnapDecodes: what any bytes are decoded as is right, and has these bytes; bytes that are no seal are told as that. (Written by wip/genlaw17b.py.) -/
import Derived.Test.YtkbjnlbbfapgdaaDoorLSb
import Derived.Deep.RegionHeld3
set_option maxRecDepth 100000
set_option linter.unusedVariables false
set_option linter.unusedSimpArgs false
namespace Go.Proofs.YtkbjnlbbfapgdaaDoor
open Go.RowKit

theorem small_of {seq : Nat} {l : List Ac} {bs : List UInt8} (h : snapB seq l = bs) (hl : bs.length ≤ 1504) (hok : ∀ a ∈ l, a.ok) : ∀ a ∈ l, a.ls.length ≤ 100 ∧ a.cl.length ≤ 100 := by
  intro a ha
  have h1 : (encA a).length ≤ (encAs l).length := by
    unfold encAs
    clear h hok
    induction l with
    | nil => cases ha
    | cons x l ih =>
      rw [List.flatMap_cons, List.length_append]
      rcases List.mem_cons.1 ha with rfl | ha
      · omega
      · have := ih ha; omega
  have h2 := congrArg List.length h
  unfold snapB at h2
  rw [sealB_length] at h2
  simp only [encL, List.length_append, leB_length] at h2
  have h3 := encA_len a
  omega
theorem seal_dec (b : List UInt8) {m : Nat} (hm : b.length = m + 4) : decide (sealB (b.take m) = b) = (openR b).2 := by
  have h := seal_iff b
  rw [hm, Nat.add_sub_cancel] at h
  unfold openR
  by_cases hi : isSeal b
  · rw [if_pos hi]; exact decide_eq_true (h.1 hi).2
  · rw [if_neg hi]; exact decide_eq_false (fun e => hi (h.2 ⟨by omega, e⟩))
theorem seal_few {b : List UInt8} (h : b.length < 4) : (openR b).2 = false := by
  unfold openR; rw [if_neg (fun hi => by have := hi.1; omega)]
theorem rightL_few {l : List Ac} (h : rightL l = true) : l.length ≤ 8 ∧ ∀ a ∈ l, a.ten.size ≤ 16 := by
  unfold rightL at h
  simp only [Bool.and_eq_true, decide_eq_true_eq, List.all_eq_true] at h
  refine ⟨h.2, fun a ha => ?_⟩
  have h1 := h.1.1 a ha
  unfold rightB at h1
  simp only [Bool.and_eq_true] at h1
  have := tenant_len16 h1.1.1.1.2
  simpa using this

def RetD0 (w : World) (v : Int) (e : Ending) (w' : World) : Prop := ∃ B d, ∃ ys : List Ax, e = .returned (.tuple #[(.agg #[.int .u64 0, .slice B ys.length d]), .int .i64 v]) ∧ acs ys = [] ∧ RdL w' B ys ∧ (∀ y ∈ ys, y.a.ok) ∧ Ext w w'
set_option maxHeartbeats 32000000 in
theorem snapDecodes_walk (A : Option Addr) (c : Nat) (bs : List UInt8) (sl : Bool) (w : World) (hb : RdB w A bs) (hcap : bs.length ≤ c) (hcm : c ≤ 9223372036854775807) (hL : Laid w) :
    Calls Tryd.prog 6 #[.slice A bs.length c, .bool sl] w (RetV w (.bool true)) := by
  have HL := Lib.hid hL
  have HAW : Hid (∀ W, Ext w W → Calls Tryd.prog 23 #[] W (RetV W (.bool true))) := fun W e => awake17 W (HL.out.ext e)
  by_cases h1 : 1500 < bs.length
  · have q1 : decide ((1500 : Int) < (bs.length : Int)) = true := decide_eq_true (by omega)
    clear h1 hb
    have EW := Lib.hid (Ext.refl w)
    go_enter Tryd.func6, Tryd.ntmps6
    go_wp2_with (first | (go_at_call 23; refine (HAW.out _ EW.out).mono ?_; rintro e w9 ⟨rfl, e9⟩; have E9 := Lib.hid (Ext.trans EW.out e9); clear e9))
    go_ret
    exact ⟨rfl, E9.out⟩
  have q1 : decide ((1500 : Int) < (bs.length : Int)) = false := decide_eq_false (by omega)
  have HR := Lib.hid hb
  clear hb
  cases sl with
  | false =>
    go_enter Tryd.func6, Tryd.ntmps6
    have EB := Lib.hid (Ext.refl w)
    have RB := Lib.hid HR.out
    have hlb : bs.length ≤ 1504 := by omega
    have HCC : Hid (bs.length ≤ c ∧ c ≤ 9223372036854775807) := ⟨hcap, hcm⟩
    clear h1 hcap hcm HR
    have HDE0 : Hid (∀ W', Ext w W' → Calls Tryd.prog 26 #[.slice A bs.length c] W' (RetDS W' (decS bs))) := fun W' e => sdec_calls A c bs W' (RB.out.ext e) (by omega) HCC.out.1 HCC.out.2 (HL.out.ext (EB.out.trans e))
    have HSL0 : Hid (∀ W', Ext w W' → Calls Tryd.prog 31 #[.slice A bs.length c] W' (RetV W' (.bool (openR bs).2))) := fun W' e => ssealed_calls A c bs W' (RB.out.ext e) (by omega) HCC.out.1 HCC.out.2
    have hcs := dec_cases bs
    by_cases h4 : bs.length < 4
    · have hop := seal_few h4
      have q4 : decide ((4 : Int) ≤ (bs.length : Int)) = false := decide_eq_false (by omega)
      have hD : decS bs = ((0, []), 4) := by rcases hcs with h | h; (exact h.2); (rw [hop] at h; cases h.1)
      have HDE : Hid (∀ W', Ext w W' → Calls Tryd.prog 26 #[.slice A bs.length c] W' (RetD0 W' 4)) := fun W' e => by have h := HDE0.out W' e; rw [hD] at h; exact h
      have HSL : Hid (∀ W', Ext w W' → Calls Tryd.prog 31 #[.slice A bs.length c] W' (RetV W' (.bool false))) := fun W' e => by have h := HSL0.out W' e; rwa [hop] at h
      have HDL : Hid (([] : List Ac).length ≤ 8) := by show _ ≤ _; decide
      clear hcs h4 hop hD HDE0 HSL0
      go_wp2_with (first
        | (go_at_call 26; refine (HDE.out _ (Ext.refl _)).mono ?_; rintro e w5 ⟨B5, d5, ys, rfl, hy, rl, yo, e5⟩; have HY := Lib.hid hy; have R5 := Lib.hid rl; have YO := Lib.hid yo; have E5 := Lib.hid e5; have HYL : Hid (ys.length ≤ 100000) := (by have h := congrArg List.length hy; rw [acs_len] at h; exact Nat.le_trans (Nat.le_of_eq h) (Nat.le_trans HDL.out (by decide))); clear e5 rl hy yo)
        | ((with_reducible show wpList _ _ _ ({ dst := some 5, op := Op.alloc 40, type := _, pos := _, after := _, guard := _ } :: _) _ _); refine alA _ rfl 40 rfl _ _ zero_lg ?_; intro g5 w6 hg hs1 k1 e1; have G5 := Lib.hid (Nat.le_of_eq hg); have Y6 := Lib.hid k1; have T6 := Lib.hid e1; clear hg hs1 k1 e1)
        | ((with_reducible show wpList _ _ _ ({ dst := none, op := Op.store 40 _ _, type := _, pos := _, after := _, guard := _ } :: _) _ _); refine stA _ rfl 40 40 _ _ rfl g5 _ #[.int .u64 0, .slice B5 ys.length d5] rfl rfl Y6.out size_lg rfl (lg_one 0 _ _ _) ?_; intro w7 hs k4 q4; have Y7 := Lib.hid k4; have T7 := Lib.hid (show Ext w5 w7 from T6.out.grown q4 (fun q hq => by injection hq with hq; have := G5.out; omega)); have R7 := Lib.hid (R5.out.ext T7.out); have E7 := Lib.hid (E5.out.trans T7.out); clear hs k4 q4)
        | (go_at_call 31; refine (HSL.out _ E7.out).mono ?_; rintro e w12 ⟨rfl, e12⟩; have Y12 := Lib.hid (Y7.out.ext e12); have R12 := Lib.hid (R7.out.ext e12); have E12 := Lib.hid (E7.out.trans e12); clear e12; obtain ⟨b0, b1⟩ := lg_cells Y12.out)
        | (go_at_call 29; refine (rlsame_calls 0 0 B5 none d5 0 ys [] _ R12.out ⟨RdE.nil, by simp⟩ YO.out (by simp) HYL.out).mono ?_; rintro e w13 ⟨rfl, e13⟩; rw [decide_eq_true (show (0 : Nat) = 0 ∧ acs ys = acs [] from ⟨rfl, HY.out⟩)]; have E13 := Lib.hid (E12.out.trans e13); clear e13 b0 b1)
        | (go_at_call 23; refine (HAW.out _ (EB.out.trans E13.out)).mono ?_; rintro e w9 ⟨rfl, e9⟩; have E9 := Lib.hid ((EB.out.trans E13.out).trans e9); clear e9))
      go_ret
      exact ⟨rfl, E9.out⟩
    obtain ⟨m, hm⟩ : ∃ m, bs.length = m + 4 := ⟨bs.length - 4, by omega⟩
    have q4 : decide ((4 : Int) ≤ (bs.length : Int)) = true := decide_eq_true (by omega)
    have HZE : Hid (∀ W', Ext w W' → Calls Tryd.prog 30 #[.slice A m c] W' (RetB W' (sealB (bs.take m)))) := fun W' e => by
      have hl : (bs.take m).length = m := by rw [List.length_take]; omega
      have h := rseal_calls A c (bs.take m) W' ((RB.out.ext e).take m) (by omega)
      rwa [hl] at h
    have HSZ : Hid (∀ W' B d, Ext w W' → RdB W' B (sealB (bs.take m)) → Calls Tryd.prog 27 #[.slice B (sealB (bs.take m)).length d, .slice A bs.length c] W' (RetV W' (.bool (openR bs).2))) := fun W' B d e h => by
      have h2 := sameE B A d c (sealB (bs.take m)) bs W' h (RB.out.ext e) (by rw [sealB_length, List.length_take]; omega) (by omega)
      rwa [seal_dec bs hm] at h2
    generalize sealB (bs.take m) = zz at *
    have hmx : max (0 : Int) ((bs.length : Int) - 4) = (m : Int) := by omega
    have hm1 : (0 : Int) ≤ (m : Int) := by omega
    have hm2 : (m : Int) ≤ (c : Int) := by have := HCC.out.1; omega
    have hm3 : IntKind.i64.wrap ((bs.length : Int) - 4) = (bs.length : Int) - 4 := IntWalk.i64_in _ (by omega)
    clear hm
    rcases hcs with ⟨hop, hD⟩ | ⟨hop, hD⟩
    · have HDE : Hid (∀ W', Ext w W' → Calls Tryd.prog 26 #[.slice A bs.length c] W' (RetD0 W' 4)) := fun W' e => by have h := HDE0.out W' e; rw [hD] at h; exact h
      have HSL : Hid (∀ W', Ext w W' → Calls Tryd.prog 31 #[.slice A bs.length c] W' (RetV W' (.bool false))) := fun W' e => by have h := HSL0.out W' e; rwa [hop] at h
      rw [hop] at HSZ
      have HDL : Hid (([] : List Ac).length ≤ 8) := by show _ ≤ _; decide
      clear h4 hop hD HDE0 HSL0
      go_wp2_with (first
        | (go_at_call 26; refine (HDE.out _ (Ext.refl _)).mono ?_; rintro e w5 ⟨B5, d5, ys, rfl, hy, rl, yo, e5⟩; have HY := Lib.hid hy; have R5 := Lib.hid rl; have YO := Lib.hid yo; have E5 := Lib.hid e5; have HYL : Hid (ys.length ≤ 100000) := (by have h := congrArg List.length hy; rw [acs_len] at h; exact Nat.le_trans (Nat.le_of_eq h) (Nat.le_trans HDL.out (by decide))); clear e5 rl hy yo)
        | ((with_reducible show wpList _ _ _ ({ dst := some 5, op := Op.alloc 40, type := _, pos := _, after := _, guard := _ } :: _) _ _); refine alA _ rfl 40 rfl _ _ zero_lg ?_; intro g5 w6 hg hs1 k1 e1; have G5 := Lib.hid (Nat.le_of_eq hg); have Y6 := Lib.hid k1; have T6 := Lib.hid e1; clear hg hs1 k1 e1)
        | ((with_reducible show wpList _ _ _ ({ dst := none, op := Op.store 40 _ _, type := _, pos := _, after := _, guard := _ } :: _) _ _); refine stA _ rfl 40 40 _ _ rfl g5 _ #[.int .u64 0, .slice B5 ys.length d5] rfl rfl Y6.out size_lg rfl (lg_one 0 _ _ _) ?_; intro w7 hs k4 q4; have Y7 := Lib.hid k4; have T7 := Lib.hid (show Ext w5 w7 from T6.out.grown q4 (fun q hq => by injection hq with hq; have := G5.out; omega)); have R7 := Lib.hid (R5.out.ext T7.out); have E7 := Lib.hid (E5.out.trans T7.out); clear hs k4 q4)
        | (go_at_call 30; refine (HZE.out _ E7.out).mono ?_; rintro e w10 ⟨B10, d10, rfl, o10, e10⟩; have P10 := Lib.hid o10; have Y10 := Lib.hid (Y7.out.ext e10); have R10 := Lib.hid (R7.out.ext e10); have E10 := Lib.hid (E7.out.trans e10); clear o10 e10)
        | (go_at_call_of 27 (Value.slice B10 zz.length d10); refine (HSZ.out _ _ _ E10.out P10.out.rd).mono ?_; rintro e w11 ⟨rfl, e11⟩; have Y11 := Lib.hid (Y10.out.ext e11); have R11 := Lib.hid (R10.out.ext e11); have E11 := Lib.hid (E10.out.trans e11); clear e11)
        | (go_at_call 31; refine (HSL.out _ E11.out).mono ?_; rintro e w12 ⟨rfl, e12⟩; have Y12 := Lib.hid (Y11.out.ext e12); have R12 := Lib.hid (R11.out.ext e12); have E12 := Lib.hid (E11.out.trans e12); clear e12; obtain ⟨b0, b1⟩ := lg_cells Y12.out)
        | (go_at_call 29; refine (rlsame_calls 0 0 B5 none d5 0 ys [] _ R12.out ⟨RdE.nil, by simp⟩ YO.out (by simp) HYL.out).mono ?_; rintro e w13 ⟨rfl, e13⟩; rw [decide_eq_true (show (0 : Nat) = 0 ∧ acs ys = acs [] from ⟨rfl, HY.out⟩)]; have E13 := Lib.hid (E12.out.trans e13); clear e13 b0 b1)
        | (go_at_call 23; refine (HAW.out _ (EB.out.trans E13.out)).mono ?_; rintro e w9 ⟨rfl, e9⟩; have E9 := Lib.hid ((EB.out.trans E13.out).trans e9); clear e9))
      go_ret
      exact ⟨rfl, E9.out⟩
    rw [hop] at HSZ
    have HSL : Hid (∀ W', Ext w W' → Calls Tryd.prog 31 #[.slice A bs.length c] W' (RetV W' (.bool true))) := fun W' e => by have h := HSL0.out W' e; rwa [hop] at h
    rcases hD with hD | hD | hD
    · have HDE : Hid (∀ W', Ext w W' → Calls Tryd.prog 26 #[.slice A bs.length c] W' (RetD0 W' 1)) := fun W' e => by have h := HDE0.out W' e; rw [hD] at h; exact h
      have HDL : Hid (([] : List Ac).length ≤ 8) := by show _ ≤ _; decide
      clear h4 hop hD HDE0 HSL0
      go_wp2_with (first
        | (go_at_call 26; refine (HDE.out _ (Ext.refl _)).mono ?_; rintro e w5 ⟨B5, d5, ys, rfl, hy, rl, yo, e5⟩; have HY := Lib.hid hy; have R5 := Lib.hid rl; have YO := Lib.hid yo; have E5 := Lib.hid e5; have HYL : Hid (ys.length ≤ 100000) := (by have h := congrArg List.length hy; rw [acs_len] at h; exact Nat.le_trans (Nat.le_of_eq h) (Nat.le_trans HDL.out (by decide))); clear e5 rl hy yo)
        | ((with_reducible show wpList _ _ _ ({ dst := some 5, op := Op.alloc 40, type := _, pos := _, after := _, guard := _ } :: _) _ _); refine alA _ rfl 40 rfl _ _ zero_lg ?_; intro g5 w6 hg hs1 k1 e1; have G5 := Lib.hid (Nat.le_of_eq hg); have Y6 := Lib.hid k1; have T6 := Lib.hid e1; clear hg hs1 k1 e1)
        | ((with_reducible show wpList _ _ _ ({ dst := none, op := Op.store 40 _ _, type := _, pos := _, after := _, guard := _ } :: _) _ _); refine stA _ rfl 40 40 _ _ rfl g5 _ #[.int .u64 0, .slice B5 ys.length d5] rfl rfl Y6.out size_lg rfl (lg_one 0 _ _ _) ?_; intro w7 hs k4 q4; have Y7 := Lib.hid k4; have T7 := Lib.hid (show Ext w5 w7 from T6.out.grown q4 (fun q hq => by injection hq with hq; have := G5.out; omega)); have R7 := Lib.hid (R5.out.ext T7.out); have E7 := Lib.hid (E5.out.trans T7.out); clear hs k4 q4)
        | (go_at_call 30; refine (HZE.out _ E7.out).mono ?_; rintro e w10 ⟨B10, d10, rfl, o10, e10⟩; have P10 := Lib.hid o10; have Y10 := Lib.hid (Y7.out.ext e10); have R10 := Lib.hid (R7.out.ext e10); have E10 := Lib.hid (E7.out.trans e10); clear o10 e10)
        | (go_at_call_of 27 (Value.slice B10 zz.length d10); refine (HSZ.out _ _ _ E10.out P10.out.rd).mono ?_; rintro e w11 ⟨rfl, e11⟩; have Y11 := Lib.hid (Y10.out.ext e11); have R11 := Lib.hid (R10.out.ext e11); have E11 := Lib.hid (E10.out.trans e11); clear e11)
        | (go_at_call 31; refine (HSL.out _ E11.out).mono ?_; rintro e w12 ⟨rfl, e12⟩; have Y12 := Lib.hid (Y11.out.ext e12); have R12 := Lib.hid (R11.out.ext e12); have E12 := Lib.hid (E11.out.trans e12); clear e12; obtain ⟨b0, b1⟩ := lg_cells Y12.out)
        | (go_at_call 29; refine (rlsame_calls 0 0 B5 none d5 0 ys [] _ R12.out ⟨RdE.nil, by simp⟩ YO.out (by simp) HYL.out).mono ?_; rintro e w13 ⟨rfl, e13⟩; rw [decide_eq_true (show (0 : Nat) = 0 ∧ acs ys = acs [] from ⟨rfl, HY.out⟩)]; have E13 := Lib.hid (E12.out.trans e13); clear e13 b0 b1)
        | (go_at_call 23; refine (HAW.out _ (EB.out.trans E13.out)).mono ?_; rintro e w9 ⟨rfl, e9⟩; have E9 := Lib.hid ((EB.out.trans E13.out).trans e9); clear e9))
      go_ret
      exact ⟨rfl, E9.out⟩
    · have HDE : Hid (∀ W', Ext w W' → Calls Tryd.prog 26 #[.slice A bs.length c] W' (RetD0 W' 2)) := fun W' e => by have h := HDE0.out W' e; rw [hD] at h; exact h
      have HDL : Hid (([] : List Ac).length ≤ 8) := by show _ ≤ _; decide
      clear h4 hop hD HDE0 HSL0
      go_wp2_with (first
        | (go_at_call 26; refine (HDE.out _ (Ext.refl _)).mono ?_; rintro e w5 ⟨B5, d5, ys, rfl, hy, rl, yo, e5⟩; have HY := Lib.hid hy; have R5 := Lib.hid rl; have YO := Lib.hid yo; have E5 := Lib.hid e5; have HYL : Hid (ys.length ≤ 100000) := (by have h := congrArg List.length hy; rw [acs_len] at h; exact Nat.le_trans (Nat.le_of_eq h) (Nat.le_trans HDL.out (by decide))); clear e5 rl hy yo)
        | ((with_reducible show wpList _ _ _ ({ dst := some 5, op := Op.alloc 40, type := _, pos := _, after := _, guard := _ } :: _) _ _); refine alA _ rfl 40 rfl _ _ zero_lg ?_; intro g5 w6 hg hs1 k1 e1; have G5 := Lib.hid (Nat.le_of_eq hg); have Y6 := Lib.hid k1; have T6 := Lib.hid e1; clear hg hs1 k1 e1)
        | ((with_reducible show wpList _ _ _ ({ dst := none, op := Op.store 40 _ _, type := _, pos := _, after := _, guard := _ } :: _) _ _); refine stA _ rfl 40 40 _ _ rfl g5 _ #[.int .u64 0, .slice B5 ys.length d5] rfl rfl Y6.out size_lg rfl (lg_one 0 _ _ _) ?_; intro w7 hs k4 q4; have Y7 := Lib.hid k4; have T7 := Lib.hid (show Ext w5 w7 from T6.out.grown q4 (fun q hq => by injection hq with hq; have := G5.out; omega)); have R7 := Lib.hid (R5.out.ext T7.out); have E7 := Lib.hid (E5.out.trans T7.out); clear hs k4 q4)
        | (go_at_call 30; refine (HZE.out _ E7.out).mono ?_; rintro e w10 ⟨B10, d10, rfl, o10, e10⟩; have P10 := Lib.hid o10; have Y10 := Lib.hid (Y7.out.ext e10); have R10 := Lib.hid (R7.out.ext e10); have E10 := Lib.hid (E7.out.trans e10); clear o10 e10)
        | (go_at_call_of 27 (Value.slice B10 zz.length d10); refine (HSZ.out _ _ _ E10.out P10.out.rd).mono ?_; rintro e w11 ⟨rfl, e11⟩; have Y11 := Lib.hid (Y10.out.ext e11); have R11 := Lib.hid (R10.out.ext e11); have E11 := Lib.hid (E10.out.trans e11); clear e11)
        | (go_at_call 31; refine (HSL.out _ E11.out).mono ?_; rintro e w12 ⟨rfl, e12⟩; have Y12 := Lib.hid (Y11.out.ext e12); have R12 := Lib.hid (R11.out.ext e12); have E12 := Lib.hid (E11.out.trans e12); clear e12; obtain ⟨b0, b1⟩ := lg_cells Y12.out)
        | (go_at_call 29; refine (rlsame_calls 0 0 B5 none d5 0 ys [] _ R12.out ⟨RdE.nil, by simp⟩ YO.out (by simp) HYL.out).mono ?_; rintro e w13 ⟨rfl, e13⟩; rw [decide_eq_true (show (0 : Nat) = 0 ∧ acs ys = acs [] from ⟨rfl, HY.out⟩)]; have E13 := Lib.hid (E12.out.trans e13); clear e13 b0 b1)
        | (go_at_call 23; refine (HAW.out _ (EB.out.trans E13.out)).mono ?_; rintro e w9 ⟨rfl, e9⟩; have E9 := Lib.hid ((EB.out.trans E13.out).trans e9); clear e9))
      go_ret
      exact ⟨rfl, E9.out⟩
    · obtain ⟨_, hrl, hsn, hsq⟩ := dec_right hD
      have hfew := rightL_few hrl
      have HRG : Hid (∀ W' B d (ys : List Ax), RdL W' B ys → (∀ y ∈ ys, y.a.ok) → acs ys = (decS bs).1.2 → Calls Tryd.prog 25 #[(.agg #[.int .u64 (((decS bs).1.1 : Nat) : Int), .slice B ys.length d])] W' (RetV W' (.bool true))) := fun W' B d ys h1 h2 h3 => by
        have h := rlright_calls (decS bs).1.1 B d ys W' h1 h2 (by have h := congrArg List.length h3; rw [acs_len] at h; omega)
        rw [h3, hrl] at h
        exact h
      have HBY : Hid (∀ W' B d (ys : List Ax), RdL W' B ys → (∀ y ∈ ys, y.a.ok) → acs ys = (decS bs).1.2 → Calls Tryd.prog 28 #[(.agg #[.int .u64 (((decS bs).1.1 : Nat) : Int), .slice B ys.length d])] W' (RetB W' bs)) := fun W' B d ys h1 h2 h3 => by
        have hok : ∀ a ∈ (decS bs).1.2, a.ok := fun a ha => by rw [← h3] at ha; obtain ⟨y, hy, rfl⟩ := List.mem_map.1 ha; exact h2 y hy
        have hsm := small_of hsn hlb hok
        have h := rbytes17_calls (decS bs).1.1 B d ys W' hsq h1 h2 (fun a ha => by rw [h3] at ha; have := hsm a ha; have := hfew.2 a ha; unfold small; omega) (by have h := congrArg List.length h3; rw [acs_len] at h; omega)
        rw [h3, hsn] at h
        exact h
      have HDE : Hid (∀ W', Ext w W' → Calls Tryd.prog 26 #[.slice A bs.length c] W' (fun e w' => ∃ B d, ∃ ys : List Ax, e = .returned (.tuple #[(.agg #[.int .u64 (((decS bs).1.1 : Nat) : Int), .slice B ys.length d]), .int .i64 0]) ∧ acs ys = (decS bs).1.2 ∧ RdL w' B ys ∧ (∀ y ∈ ys, y.a.ok) ∧ Ext W' w')) := fun W' e => (HDE0.out W' e).mono fun e' w' h => by
        obtain ⟨B, d, ys, h1, h2⟩ := h
        rw [hD] at h1
        exact ⟨B, d, ys, h1, h2⟩
      have HDL : Hid ((decS bs).1.2.length ≤ 8) := hfew.1
      clear h4 hop hD HDE0 HSL0 hrl hsn hsq hfew
      generalize decS bs = D at *
      obtain ⟨⟨sq, L⟩, er⟩ := D
      dsimp only at *
      go_wp2_with (first
        | (go_at_call 26; refine (HDE.out _ (Ext.refl _)).mono ?_; rintro e w5 ⟨B5, d5, ys, rfl, hy, rl, yo, e5⟩; have HY := Lib.hid hy; have R5 := Lib.hid rl; have YO := Lib.hid yo; have E5 := Lib.hid e5; have HYL : Hid (ys.length ≤ 100000) := (by have h := congrArg List.length hy; rw [acs_len] at h; exact Nat.le_trans (Nat.le_of_eq h) (Nat.le_trans HDL.out (by decide))); clear e5 rl hy yo)
        | ((with_reducible show wpList _ _ _ ({ dst := some 5, op := Op.alloc 40, type := _, pos := _, after := _, guard := _ } :: _) _ _); refine alA _ rfl 40 rfl _ _ zero_lg ?_; intro g5 w6 hg hs1 k1 e1; have G5 := Lib.hid (Nat.le_of_eq hg); have Y6 := Lib.hid k1; have T6 := Lib.hid e1; clear hg hs1 k1 e1)
        | ((with_reducible show wpList _ _ _ ({ dst := none, op := Op.store 40 _ _, type := _, pos := _, after := _, guard := _ } :: _) _ _); refine stA _ rfl 40 40 _ _ rfl g5 _ #[.int .u64 sq, .slice B5 ys.length d5] rfl rfl Y6.out size_lg rfl (lg_one sq _ _ _) ?_; intro w7 hs k4 q4; have Y7 := Lib.hid k4; have T7 := Lib.hid (show Ext w5 w7 from T6.out.grown q4 (fun q hq => by injection hq with hq; have := G5.out; omega)); have R7 := Lib.hid (R5.out.ext T7.out); have E7 := Lib.hid (E5.out.trans T7.out); clear hs k4 q4)
        | (go_at_call 30; refine (HZE.out _ E7.out).mono ?_; rintro e w10 ⟨B10, d10, rfl, o10, e10⟩; have P10 := Lib.hid o10; have Y10 := Lib.hid (Y7.out.ext e10); have R10 := Lib.hid (R7.out.ext e10); have E10 := Lib.hid (E7.out.trans e10); clear o10 e10)
        | (go_at_call_of 27 (Value.slice B10 zz.length d10); refine (HSZ.out _ _ _ E10.out P10.out.rd).mono ?_; rintro e w11 ⟨rfl, e11⟩; have Y11 := Lib.hid (Y10.out.ext e11); have R11 := Lib.hid (R10.out.ext e11); have E11 := Lib.hid (E10.out.trans e11); clear e11)
        | (go_at_call 31; refine (HSL.out _ E11.out).mono ?_; rintro e w12 ⟨rfl, e12⟩; have Y12 := Lib.hid (Y11.out.ext e12); have R12 := Lib.hid (R11.out.ext e12); have E12 := Lib.hid (E11.out.trans e12); clear e12; obtain ⟨b0, b1⟩ := lg_cells Y12.out)
        | (go_at_call 25; refine (HRG.out _ _ _ _ R12.out YO.out HY.out).mono ?_; rintro e w13 ⟨rfl, e13⟩; have E13 := Lib.hid (E12.out.trans e13); have Y13 := Lib.hid (Y12.out.ext e13); have R13 := Lib.hid (R12.out.ext e13); clear e13 b0 b1; obtain ⟨b0, b1⟩ := lg_cells Y13.out)
        | (go_at_call 28; refine (HBY.out _ _ _ _ R13.out YO.out HY.out).mono ?_; rintro e w14 ⟨B14, d14, rfl, o14, e14⟩; have P14 := Lib.hid o14; have E14 := Lib.hid (E13.out.trans e14); clear o14 e14 b0 b1)
        | (go_at_call_of 27 (Value.slice B14 bs.length d14); refine (sameE B14 A d14 c bs bs _ P14.out.rd (RB.out.ext E14.out) (by omega) (by omega)).mono ?_; rintro e w15 ⟨rfl, e15⟩; rw [decide_eq_true (rfl : bs = bs)]; have E15 := Lib.hid (E14.out.trans e15); clear e15)
        | (go_at_call 23; refine (HAW.out _ (EB.out.trans E15.out)).mono ?_; rintro e w9 ⟨rfl, e9⟩; have E9 := Lib.hid ((EB.out.trans E15.out).trans e9); clear e9))
      go_ret
      exact ⟨rfl, E9.out⟩
  | true =>
    have HSE : Hid (∀ W, Ext w W → Calls Tryd.prog 30 #[.slice A bs.length c] W (RetB W (sealB bs))) := fun W e => rseal_calls A c bs W (HR.out.ext e) (by omega)
    have hlb : (sealB bs).length ≤ 1504 := by rw [sealB_length]; omega
    clear h1 hcap hcm HR
    generalize sealB bs = bz at *
    go_enter Tryd.func6, Tryd.ntmps6
    go_wp2_with fail
    refine (HSE.out _ (Ext.refl _)).mono ?_
    rintro e W ⟨Az, cz, rfl, oz, ez⟩
    have EB := Lib.hid ez
    have RB := Lib.hid oz.rd
    have HCC : Hid (bz.length ≤ cz ∧ cz ≤ 9223372036854775807) := ⟨oz.cap, oz.capmax⟩
    clear oz ez HSE q1
    have HDE0 : Hid (∀ W', Ext W W' → Calls Tryd.prog 26 #[.slice Az bz.length cz] W' (RetDS W' (decS bz))) := fun W' e => sdec_calls Az cz bz W' (RB.out.ext e) (by omega) HCC.out.1 HCC.out.2 (HL.out.ext (EB.out.trans e))
    have HSL0 : Hid (∀ W', Ext W W' → Calls Tryd.prog 31 #[.slice Az bz.length cz] W' (RetV W' (.bool (openR bz).2))) := fun W' e => ssealed_calls Az cz bz W' (RB.out.ext e) (by omega) HCC.out.1 HCC.out.2
    have hcs := dec_cases bz
    by_cases h4 : bz.length < 4
    · have hop := seal_few h4
      have q4 : decide ((4 : Int) ≤ (bz.length : Int)) = false := decide_eq_false (by omega)
      have hD : decS bz = ((0, []), 4) := by rcases hcs with h | h; (exact h.2); (rw [hop] at h; cases h.1)
      have HDE : Hid (∀ W', Ext W W' → Calls Tryd.prog 26 #[.slice Az bz.length cz] W' (RetD0 W' 4)) := fun W' e => by have h := HDE0.out W' e; rw [hD] at h; exact h
      have HSL : Hid (∀ W', Ext W W' → Calls Tryd.prog 31 #[.slice Az bz.length cz] W' (RetV W' (.bool false))) := fun W' e => by have h := HSL0.out W' e; rwa [hop] at h
      have HDL : Hid (([] : List Ac).length ≤ 8) := by show _ ≤ _; decide
      clear hcs h4 hop hD HDE0 HSL0
      go_wp2_with (first
        | (go_at_call 26; refine (HDE.out _ (Ext.refl _)).mono ?_; rintro e w5 ⟨B5, d5, ys, rfl, hy, rl, yo, e5⟩; have HY := Lib.hid hy; have R5 := Lib.hid rl; have YO := Lib.hid yo; have E5 := Lib.hid e5; have HYL : Hid (ys.length ≤ 100000) := (by have h := congrArg List.length hy; rw [acs_len] at h; exact Nat.le_trans (Nat.le_of_eq h) (Nat.le_trans HDL.out (by decide))); clear e5 rl hy yo)
        | ((with_reducible show wpList _ _ _ ({ dst := some 5, op := Op.alloc 40, type := _, pos := _, after := _, guard := _ } :: _) _ _); refine alA _ rfl 40 rfl _ _ zero_lg ?_; intro g5 w6 hg hs1 k1 e1; have G5 := Lib.hid (Nat.le_of_eq hg); have Y6 := Lib.hid k1; have T6 := Lib.hid e1; clear hg hs1 k1 e1)
        | ((with_reducible show wpList _ _ _ ({ dst := none, op := Op.store 40 _ _, type := _, pos := _, after := _, guard := _ } :: _) _ _); refine stA _ rfl 40 40 _ _ rfl g5 _ #[.int .u64 0, .slice B5 ys.length d5] rfl rfl Y6.out size_lg rfl (lg_one 0 _ _ _) ?_; intro w7 hs k4 q4; have Y7 := Lib.hid k4; have T7 := Lib.hid (show Ext w5 w7 from T6.out.grown q4 (fun q hq => by injection hq with hq; have := G5.out; omega)); have R7 := Lib.hid (R5.out.ext T7.out); have E7 := Lib.hid (E5.out.trans T7.out); clear hs k4 q4)
        | (go_at_call 31; refine (HSL.out _ E7.out).mono ?_; rintro e w12 ⟨rfl, e12⟩; have Y12 := Lib.hid (Y7.out.ext e12); have R12 := Lib.hid (R7.out.ext e12); have E12 := Lib.hid (E7.out.trans e12); clear e12; obtain ⟨b0, b1⟩ := lg_cells Y12.out)
        | (go_at_call 29; refine (rlsame_calls 0 0 B5 none d5 0 ys [] _ R12.out ⟨RdE.nil, by simp⟩ YO.out (by simp) HYL.out).mono ?_; rintro e w13 ⟨rfl, e13⟩; rw [decide_eq_true (show (0 : Nat) = 0 ∧ acs ys = acs [] from ⟨rfl, HY.out⟩)]; have E13 := Lib.hid (E12.out.trans e13); clear e13 b0 b1)
        | (go_at_call 23; refine (HAW.out _ (EB.out.trans E13.out)).mono ?_; rintro e w9 ⟨rfl, e9⟩; have E9 := Lib.hid ((EB.out.trans E13.out).trans e9); clear e9))
      go_ret
      exact ⟨rfl, E9.out⟩
    obtain ⟨m, hm⟩ : ∃ m, bz.length = m + 4 := ⟨bz.length - 4, by omega⟩
    have q4 : decide ((4 : Int) ≤ (bz.length : Int)) = true := decide_eq_true (by omega)
    have HZE : Hid (∀ W', Ext W W' → Calls Tryd.prog 30 #[.slice Az m cz] W' (RetB W' (sealB (bz.take m)))) := fun W' e => by
      have hl : (bz.take m).length = m := by rw [List.length_take]; omega
      have h := rseal_calls Az cz (bz.take m) W' ((RB.out.ext e).take m) (by omega)
      rwa [hl] at h
    have HSZ : Hid (∀ W' B d, Ext W W' → RdB W' B (sealB (bz.take m)) → Calls Tryd.prog 27 #[.slice B (sealB (bz.take m)).length d, .slice Az bz.length cz] W' (RetV W' (.bool (openR bz).2))) := fun W' B d e h => by
      have h2 := sameE B Az d cz (sealB (bz.take m)) bz W' h (RB.out.ext e) (by rw [sealB_length, List.length_take]; omega) (by omega)
      rwa [seal_dec bz hm] at h2
    generalize sealB (bz.take m) = zz at *
    have hmx : max (0 : Int) ((bz.length : Int) - 4) = (m : Int) := by omega
    have hm1 : (0 : Int) ≤ (m : Int) := by omega
    have hm2 : (m : Int) ≤ (cz : Int) := by have := HCC.out.1; omega
    have hm3 : IntKind.i64.wrap ((bz.length : Int) - 4) = (bz.length : Int) - 4 := IntWalk.i64_in _ (by omega)
    clear hm
    rcases hcs with ⟨hop, hD⟩ | ⟨hop, hD⟩
    · have HDE : Hid (∀ W', Ext W W' → Calls Tryd.prog 26 #[.slice Az bz.length cz] W' (RetD0 W' 4)) := fun W' e => by have h := HDE0.out W' e; rw [hD] at h; exact h
      have HSL : Hid (∀ W', Ext W W' → Calls Tryd.prog 31 #[.slice Az bz.length cz] W' (RetV W' (.bool false))) := fun W' e => by have h := HSL0.out W' e; rwa [hop] at h
      rw [hop] at HSZ
      have HDL : Hid (([] : List Ac).length ≤ 8) := by show _ ≤ _; decide
      clear h4 hop hD HDE0 HSL0
      go_wp2_with (first
        | (go_at_call 26; refine (HDE.out _ (Ext.refl _)).mono ?_; rintro e w5 ⟨B5, d5, ys, rfl, hy, rl, yo, e5⟩; have HY := Lib.hid hy; have R5 := Lib.hid rl; have YO := Lib.hid yo; have E5 := Lib.hid e5; have HYL : Hid (ys.length ≤ 100000) := (by have h := congrArg List.length hy; rw [acs_len] at h; exact Nat.le_trans (Nat.le_of_eq h) (Nat.le_trans HDL.out (by decide))); clear e5 rl hy yo)
        | ((with_reducible show wpList _ _ _ ({ dst := some 5, op := Op.alloc 40, type := _, pos := _, after := _, guard := _ } :: _) _ _); refine alA _ rfl 40 rfl _ _ zero_lg ?_; intro g5 w6 hg hs1 k1 e1; have G5 := Lib.hid (Nat.le_of_eq hg); have Y6 := Lib.hid k1; have T6 := Lib.hid e1; clear hg hs1 k1 e1)
        | ((with_reducible show wpList _ _ _ ({ dst := none, op := Op.store 40 _ _, type := _, pos := _, after := _, guard := _ } :: _) _ _); refine stA _ rfl 40 40 _ _ rfl g5 _ #[.int .u64 0, .slice B5 ys.length d5] rfl rfl Y6.out size_lg rfl (lg_one 0 _ _ _) ?_; intro w7 hs k4 q4; have Y7 := Lib.hid k4; have T7 := Lib.hid (show Ext w5 w7 from T6.out.grown q4 (fun q hq => by injection hq with hq; have := G5.out; omega)); have R7 := Lib.hid (R5.out.ext T7.out); have E7 := Lib.hid (E5.out.trans T7.out); clear hs k4 q4)
        | (go_at_call 30; refine (HZE.out _ E7.out).mono ?_; rintro e w10 ⟨B10, d10, rfl, o10, e10⟩; have P10 := Lib.hid o10; have Y10 := Lib.hid (Y7.out.ext e10); have R10 := Lib.hid (R7.out.ext e10); have E10 := Lib.hid (E7.out.trans e10); clear o10 e10)
        | (go_at_call_of 27 (Value.slice B10 zz.length d10); refine (HSZ.out _ _ _ E10.out P10.out.rd).mono ?_; rintro e w11 ⟨rfl, e11⟩; have Y11 := Lib.hid (Y10.out.ext e11); have R11 := Lib.hid (R10.out.ext e11); have E11 := Lib.hid (E10.out.trans e11); clear e11)
        | (go_at_call 31; refine (HSL.out _ E11.out).mono ?_; rintro e w12 ⟨rfl, e12⟩; have Y12 := Lib.hid (Y11.out.ext e12); have R12 := Lib.hid (R11.out.ext e12); have E12 := Lib.hid (E11.out.trans e12); clear e12; obtain ⟨b0, b1⟩ := lg_cells Y12.out)
        | (go_at_call 29; refine (rlsame_calls 0 0 B5 none d5 0 ys [] _ R12.out ⟨RdE.nil, by simp⟩ YO.out (by simp) HYL.out).mono ?_; rintro e w13 ⟨rfl, e13⟩; rw [decide_eq_true (show (0 : Nat) = 0 ∧ acs ys = acs [] from ⟨rfl, HY.out⟩)]; have E13 := Lib.hid (E12.out.trans e13); clear e13 b0 b1)
        | (go_at_call 23; refine (HAW.out _ (EB.out.trans E13.out)).mono ?_; rintro e w9 ⟨rfl, e9⟩; have E9 := Lib.hid ((EB.out.trans E13.out).trans e9); clear e9))
      go_ret
      exact ⟨rfl, E9.out⟩
    rw [hop] at HSZ
    have HSL : Hid (∀ W', Ext W W' → Calls Tryd.prog 31 #[.slice Az bz.length cz] W' (RetV W' (.bool true))) := fun W' e => by have h := HSL0.out W' e; rwa [hop] at h
    rcases hD with hD | hD | hD
    · have HDE : Hid (∀ W', Ext W W' → Calls Tryd.prog 26 #[.slice Az bz.length cz] W' (RetD0 W' 1)) := fun W' e => by have h := HDE0.out W' e; rw [hD] at h; exact h
      have HDL : Hid (([] : List Ac).length ≤ 8) := by show _ ≤ _; decide
      clear h4 hop hD HDE0 HSL0
      go_wp2_with (first
        | (go_at_call 26; refine (HDE.out _ (Ext.refl _)).mono ?_; rintro e w5 ⟨B5, d5, ys, rfl, hy, rl, yo, e5⟩; have HY := Lib.hid hy; have R5 := Lib.hid rl; have YO := Lib.hid yo; have E5 := Lib.hid e5; have HYL : Hid (ys.length ≤ 100000) := (by have h := congrArg List.length hy; rw [acs_len] at h; exact Nat.le_trans (Nat.le_of_eq h) (Nat.le_trans HDL.out (by decide))); clear e5 rl hy yo)
        | ((with_reducible show wpList _ _ _ ({ dst := some 5, op := Op.alloc 40, type := _, pos := _, after := _, guard := _ } :: _) _ _); refine alA _ rfl 40 rfl _ _ zero_lg ?_; intro g5 w6 hg hs1 k1 e1; have G5 := Lib.hid (Nat.le_of_eq hg); have Y6 := Lib.hid k1; have T6 := Lib.hid e1; clear hg hs1 k1 e1)
        | ((with_reducible show wpList _ _ _ ({ dst := none, op := Op.store 40 _ _, type := _, pos := _, after := _, guard := _ } :: _) _ _); refine stA _ rfl 40 40 _ _ rfl g5 _ #[.int .u64 0, .slice B5 ys.length d5] rfl rfl Y6.out size_lg rfl (lg_one 0 _ _ _) ?_; intro w7 hs k4 q4; have Y7 := Lib.hid k4; have T7 := Lib.hid (show Ext w5 w7 from T6.out.grown q4 (fun q hq => by injection hq with hq; have := G5.out; omega)); have R7 := Lib.hid (R5.out.ext T7.out); have E7 := Lib.hid (E5.out.trans T7.out); clear hs k4 q4)
        | (go_at_call 30; refine (HZE.out _ E7.out).mono ?_; rintro e w10 ⟨B10, d10, rfl, o10, e10⟩; have P10 := Lib.hid o10; have Y10 := Lib.hid (Y7.out.ext e10); have R10 := Lib.hid (R7.out.ext e10); have E10 := Lib.hid (E7.out.trans e10); clear o10 e10)
        | (go_at_call_of 27 (Value.slice B10 zz.length d10); refine (HSZ.out _ _ _ E10.out P10.out.rd).mono ?_; rintro e w11 ⟨rfl, e11⟩; have Y11 := Lib.hid (Y10.out.ext e11); have R11 := Lib.hid (R10.out.ext e11); have E11 := Lib.hid (E10.out.trans e11); clear e11)
        | (go_at_call 31; refine (HSL.out _ E11.out).mono ?_; rintro e w12 ⟨rfl, e12⟩; have Y12 := Lib.hid (Y11.out.ext e12); have R12 := Lib.hid (R11.out.ext e12); have E12 := Lib.hid (E11.out.trans e12); clear e12; obtain ⟨b0, b1⟩ := lg_cells Y12.out)
        | (go_at_call 29; refine (rlsame_calls 0 0 B5 none d5 0 ys [] _ R12.out ⟨RdE.nil, by simp⟩ YO.out (by simp) HYL.out).mono ?_; rintro e w13 ⟨rfl, e13⟩; rw [decide_eq_true (show (0 : Nat) = 0 ∧ acs ys = acs [] from ⟨rfl, HY.out⟩)]; have E13 := Lib.hid (E12.out.trans e13); clear e13 b0 b1)
        | (go_at_call 23; refine (HAW.out _ (EB.out.trans E13.out)).mono ?_; rintro e w9 ⟨rfl, e9⟩; have E9 := Lib.hid ((EB.out.trans E13.out).trans e9); clear e9))
      go_ret
      exact ⟨rfl, E9.out⟩
    · have HDE : Hid (∀ W', Ext W W' → Calls Tryd.prog 26 #[.slice Az bz.length cz] W' (RetD0 W' 2)) := fun W' e => by have h := HDE0.out W' e; rw [hD] at h; exact h
      have HDL : Hid (([] : List Ac).length ≤ 8) := by show _ ≤ _; decide
      clear h4 hop hD HDE0 HSL0
      go_wp2_with (first
        | (go_at_call 26; refine (HDE.out _ (Ext.refl _)).mono ?_; rintro e w5 ⟨B5, d5, ys, rfl, hy, rl, yo, e5⟩; have HY := Lib.hid hy; have R5 := Lib.hid rl; have YO := Lib.hid yo; have E5 := Lib.hid e5; have HYL : Hid (ys.length ≤ 100000) := (by have h := congrArg List.length hy; rw [acs_len] at h; exact Nat.le_trans (Nat.le_of_eq h) (Nat.le_trans HDL.out (by decide))); clear e5 rl hy yo)
        | ((with_reducible show wpList _ _ _ ({ dst := some 5, op := Op.alloc 40, type := _, pos := _, after := _, guard := _ } :: _) _ _); refine alA _ rfl 40 rfl _ _ zero_lg ?_; intro g5 w6 hg hs1 k1 e1; have G5 := Lib.hid (Nat.le_of_eq hg); have Y6 := Lib.hid k1; have T6 := Lib.hid e1; clear hg hs1 k1 e1)
        | ((with_reducible show wpList _ _ _ ({ dst := none, op := Op.store 40 _ _, type := _, pos := _, after := _, guard := _ } :: _) _ _); refine stA _ rfl 40 40 _ _ rfl g5 _ #[.int .u64 0, .slice B5 ys.length d5] rfl rfl Y6.out size_lg rfl (lg_one 0 _ _ _) ?_; intro w7 hs k4 q4; have Y7 := Lib.hid k4; have T7 := Lib.hid (show Ext w5 w7 from T6.out.grown q4 (fun q hq => by injection hq with hq; have := G5.out; omega)); have R7 := Lib.hid (R5.out.ext T7.out); have E7 := Lib.hid (E5.out.trans T7.out); clear hs k4 q4)
        | (go_at_call 30; refine (HZE.out _ E7.out).mono ?_; rintro e w10 ⟨B10, d10, rfl, o10, e10⟩; have P10 := Lib.hid o10; have Y10 := Lib.hid (Y7.out.ext e10); have R10 := Lib.hid (R7.out.ext e10); have E10 := Lib.hid (E7.out.trans e10); clear o10 e10)
        | (go_at_call_of 27 (Value.slice B10 zz.length d10); refine (HSZ.out _ _ _ E10.out P10.out.rd).mono ?_; rintro e w11 ⟨rfl, e11⟩; have Y11 := Lib.hid (Y10.out.ext e11); have R11 := Lib.hid (R10.out.ext e11); have E11 := Lib.hid (E10.out.trans e11); clear e11)
        | (go_at_call 31; refine (HSL.out _ E11.out).mono ?_; rintro e w12 ⟨rfl, e12⟩; have Y12 := Lib.hid (Y11.out.ext e12); have R12 := Lib.hid (R11.out.ext e12); have E12 := Lib.hid (E11.out.trans e12); clear e12; obtain ⟨b0, b1⟩ := lg_cells Y12.out)
        | (go_at_call 29; refine (rlsame_calls 0 0 B5 none d5 0 ys [] _ R12.out ⟨RdE.nil, by simp⟩ YO.out (by simp) HYL.out).mono ?_; rintro e w13 ⟨rfl, e13⟩; rw [decide_eq_true (show (0 : Nat) = 0 ∧ acs ys = acs [] from ⟨rfl, HY.out⟩)]; have E13 := Lib.hid (E12.out.trans e13); clear e13 b0 b1)
        | (go_at_call 23; refine (HAW.out _ (EB.out.trans E13.out)).mono ?_; rintro e w9 ⟨rfl, e9⟩; have E9 := Lib.hid ((EB.out.trans E13.out).trans e9); clear e9))
      go_ret
      exact ⟨rfl, E9.out⟩
    · obtain ⟨_, hrl, hsn, hsq⟩ := dec_right hD
      have hfew := rightL_few hrl
      have HRG : Hid (∀ W' B d (ys : List Ax), RdL W' B ys → (∀ y ∈ ys, y.a.ok) → acs ys = (decS bz).1.2 → Calls Tryd.prog 25 #[(.agg #[.int .u64 (((decS bz).1.1 : Nat) : Int), .slice B ys.length d])] W' (RetV W' (.bool true))) := fun W' B d ys h1 h2 h3 => by
        have h := rlright_calls (decS bz).1.1 B d ys W' h1 h2 (by have h := congrArg List.length h3; rw [acs_len] at h; omega)
        rw [h3, hrl] at h
        exact h
      have HBY : Hid (∀ W' B d (ys : List Ax), RdL W' B ys → (∀ y ∈ ys, y.a.ok) → acs ys = (decS bz).1.2 → Calls Tryd.prog 28 #[(.agg #[.int .u64 (((decS bz).1.1 : Nat) : Int), .slice B ys.length d])] W' (RetB W' bz)) := fun W' B d ys h1 h2 h3 => by
        have hok : ∀ a ∈ (decS bz).1.2, a.ok := fun a ha => by rw [← h3] at ha; obtain ⟨y, hy, rfl⟩ := List.mem_map.1 ha; exact h2 y hy
        have hsm := small_of hsn hlb hok
        have h := rbytes17_calls (decS bz).1.1 B d ys W' hsq h1 h2 (fun a ha => by rw [h3] at ha; have := hsm a ha; have := hfew.2 a ha; unfold small; omega) (by have h := congrArg List.length h3; rw [acs_len] at h; omega)
        rw [h3, hsn] at h
        exact h
      have HDE : Hid (∀ W', Ext W W' → Calls Tryd.prog 26 #[.slice Az bz.length cz] W' (fun e w' => ∃ B d, ∃ ys : List Ax, e = .returned (.tuple #[(.agg #[.int .u64 (((decS bz).1.1 : Nat) : Int), .slice B ys.length d]), .int .i64 0]) ∧ acs ys = (decS bz).1.2 ∧ RdL w' B ys ∧ (∀ y ∈ ys, y.a.ok) ∧ Ext W' w')) := fun W' e => (HDE0.out W' e).mono fun e' w' h => by
        obtain ⟨B, d, ys, h1, h2⟩ := h
        rw [hD] at h1
        exact ⟨B, d, ys, h1, h2⟩
      have HDL : Hid ((decS bz).1.2.length ≤ 8) := hfew.1
      clear h4 hop hD HDE0 HSL0 hrl hsn hsq hfew
      generalize decS bz = D at *
      obtain ⟨⟨sq, L⟩, er⟩ := D
      dsimp only at *
      go_wp2_with (first
        | (go_at_call 26; refine (HDE.out _ (Ext.refl _)).mono ?_; rintro e w5 ⟨B5, d5, ys, rfl, hy, rl, yo, e5⟩; have HY := Lib.hid hy; have R5 := Lib.hid rl; have YO := Lib.hid yo; have E5 := Lib.hid e5; have HYL : Hid (ys.length ≤ 100000) := (by have h := congrArg List.length hy; rw [acs_len] at h; exact Nat.le_trans (Nat.le_of_eq h) (Nat.le_trans HDL.out (by decide))); clear e5 rl hy yo)
        | ((with_reducible show wpList _ _ _ ({ dst := some 5, op := Op.alloc 40, type := _, pos := _, after := _, guard := _ } :: _) _ _); refine alA _ rfl 40 rfl _ _ zero_lg ?_; intro g5 w6 hg hs1 k1 e1; have G5 := Lib.hid (Nat.le_of_eq hg); have Y6 := Lib.hid k1; have T6 := Lib.hid e1; clear hg hs1 k1 e1)
        | ((with_reducible show wpList _ _ _ ({ dst := none, op := Op.store 40 _ _, type := _, pos := _, after := _, guard := _ } :: _) _ _); refine stA _ rfl 40 40 _ _ rfl g5 _ #[.int .u64 sq, .slice B5 ys.length d5] rfl rfl Y6.out size_lg rfl (lg_one sq _ _ _) ?_; intro w7 hs k4 q4; have Y7 := Lib.hid k4; have T7 := Lib.hid (show Ext w5 w7 from T6.out.grown q4 (fun q hq => by injection hq with hq; have := G5.out; omega)); have R7 := Lib.hid (R5.out.ext T7.out); have E7 := Lib.hid (E5.out.trans T7.out); clear hs k4 q4)
        | (go_at_call 30; refine (HZE.out _ E7.out).mono ?_; rintro e w10 ⟨B10, d10, rfl, o10, e10⟩; have P10 := Lib.hid o10; have Y10 := Lib.hid (Y7.out.ext e10); have R10 := Lib.hid (R7.out.ext e10); have E10 := Lib.hid (E7.out.trans e10); clear o10 e10)
        | (go_at_call_of 27 (Value.slice B10 zz.length d10); refine (HSZ.out _ _ _ E10.out P10.out.rd).mono ?_; rintro e w11 ⟨rfl, e11⟩; have Y11 := Lib.hid (Y10.out.ext e11); have R11 := Lib.hid (R10.out.ext e11); have E11 := Lib.hid (E10.out.trans e11); clear e11)
        | (go_at_call 31; refine (HSL.out _ E11.out).mono ?_; rintro e w12 ⟨rfl, e12⟩; have Y12 := Lib.hid (Y11.out.ext e12); have R12 := Lib.hid (R11.out.ext e12); have E12 := Lib.hid (E11.out.trans e12); clear e12; obtain ⟨b0, b1⟩ := lg_cells Y12.out)
        | (go_at_call 25; refine (HRG.out _ _ _ _ R12.out YO.out HY.out).mono ?_; rintro e w13 ⟨rfl, e13⟩; have E13 := Lib.hid (E12.out.trans e13); have Y13 := Lib.hid (Y12.out.ext e13); have R13 := Lib.hid (R12.out.ext e13); clear e13 b0 b1; obtain ⟨b0, b1⟩ := lg_cells Y13.out)
        | (go_at_call 28; refine (HBY.out _ _ _ _ R13.out YO.out HY.out).mono ?_; rintro e w14 ⟨B14, d14, rfl, o14, e14⟩; have P14 := Lib.hid o14; have E14 := Lib.hid (E13.out.trans e14); clear o14 e14 b0 b1)
        | (go_at_call_of 27 (Value.slice B14 bz.length d14); refine (sameE B14 Az d14 cz bz bz _ P14.out.rd (RB.out.ext E14.out) (by omega) (by omega)).mono ?_; rintro e w15 ⟨rfl, e15⟩; rw [decide_eq_true (rfl : bz = bz)]; have E15 := Lib.hid (E14.out.trans e15); clear e15)
        | (go_at_call 23; refine (HAW.out _ (EB.out.trans E15.out)).mono ?_; rintro e w9 ⟨rfl, e9⟩; have E9 := Lib.hid ((EB.out.trans E15.out).trans e9); clear e9))
      go_ret
      exact ⟨rfl, E9.out⟩
end Go.Proofs.YtkbjnlbbfapgdaaDoor

