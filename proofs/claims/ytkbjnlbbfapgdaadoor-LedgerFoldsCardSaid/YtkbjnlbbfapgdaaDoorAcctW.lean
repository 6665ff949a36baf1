/- acct.Out, Use, Room. -/
import Derived.Test.YtkbjnlbbfapgdaaDoorAcctR
set_option maxRecDepth 100000
set_option linter.unusedVariables false
set_option linter.unusedSimpArgs false
namespace Go.Proofs.YtkbjnlbbfapgdaaDoor
open Go.RowKit

theorem outF_lt (ls : List Lz) : outF ls < 18446744073709551616 := by rw [outF_eq]; omega
theorem useN_lt (a : Ac) : useN a < 18446744073709551616 := by rw [useN_eq]; omega

set_option maxHeartbeats 4000000 in
theorem aout_calls (a : Ac) (AL AC : Option Addr) (cL cC : Nat) (w : World) (ha : RdA w a AL AC) (hok : a.ok) :
    Calls Tryd.prog 52 #[acA a AL cL AC cC] w (RetV w (.int .u64 (outF a.ls))) := by
  have HA := Lib.hid ha
  have OK := Lib.hid hok
  have l1 := hok.2.2.2.2.2.2.2.1
  clear ha hok
  unfold acA
  go_enter Tryd.func52, Tryd.ntmps52
  go_wp2_with (first
    | ((with_reducible show wpList _ _ _ ({ dst := some 1, op := Op.box 26 _, type := _, pos := _, after := _, guard := _ } :: _) _ _); refine bxA _ rfl 26 _ rfl _ rfl ?_; intro g1 w1 hg hs1 k1 e1; have X1 := Lib.hid k1; have E1 := Lib.hid e1; obtain ⟨a0, a1, a2, a3, a4, a5, a6⟩ := ac_cells X1.out; clear hg hs1 k1 e1))
  clear a0 a1 a2 a3 a4 a5 a6
  go_loopw [3, 9] (fun n i wr => ∃ k N : Nat, k ≤ a.ls.length ∧ n = .int .u64 N ∧ i = .int .i64 k ∧ Ext w1 wr ∧ N < 18446744073709551616 ∧ (a.ls.drop k).foldl (fun n l => addN n l.sz) N = outF a.ls) (fun _ i _ => a.ls.length - (intOf i).toNat)
  case atStart => exact ⟨0, 0, by omega, rfl, rfl, Ext.refl _, by decide, rfl⟩
  case round =>
    obtain ⟨k, N, hk, rfl, rfl, hE, hN, hr⟩ := hrel
    have Hr := Lib.hid hr
    have E0 := Lib.hid hE
    have F0 := Lib.hid (E1.out.trans hE)
    clear hr hE
    by_cases hlt : k < a.ls.length
    · obtain ⟨ad, rfl, x0, x1⟩ := (HA.out.1.ext F0.out).two hlt
      have HD := Lib.hid (drop_cons hlt)
      have hx := OK.out.2.2.2.2.2.1 _ (List.getElem_mem hlt)
      have k1 : (k : Int) < (a.ls.length : Int) := by omega
      generalize a.ls[k] = x at *
      have z2 := hx.2
      clear hx
      have HO : Hid (∀ W, Calls Tryd.prog 57 #[.int .u64 N, .int .u64 x.sz] W fun e w' => e = .returned (.int .u64 (addN N x.sz)) ∧ W = w') := fun W => add_calls N x.sz W hN z2
      have HN : Hid ((a.ls.drop (k + 1)).foldl (fun n l => addN n l.sz) (addN N x.sz) = outF a.ls) := by show _ = _; rw [← Hr.out, HD.out]; rfl
      have hM : addN N x.sz < 18446744073709551616 := by rw [addN_eq]; omega
      generalize addN N x.sz = M at *
      go_wp2_with (first
        | ((with_reducible show wpList _ _ _ ({ dst := some 5, op := Op.alloc 64, type := _, pos := _, after := _, guard := _ } :: _) _ _); refine alA _ rfl 64 rfl _ _ zero_lease ?_; intro g3 w3 hg hs1 k3 e3; have X3 := Lib.hid k3; have E3 := Lib.hid (E0.out.trans e3); have G3 := Lib.hid (show w1.heap.size ≤ g3 from by have := E0.out.size; omega); clear hg hs1 k3 e3 x0 x1)
        | ((with_reducible show wpList _ _ _ ({ dst := none, op := Op.store 64 _ _, type := _, pos := _, after := _, guard := _ } :: _) _ _); refine stA _ rfl 64 64 _ _ rfl g3 _ (lzV x) rfl rfl X3.out size_lease rfl (lzV_one _) ?_; intro w4 hs k4 g4; have E4 := Lib.hid (E3.out.grown g4 (fun k hk => by injection hk with hk; have := G3.out; omega)); obtain ⟨x0, x1⟩ := lz_cells k4; clear hs k4 g4)
        | (go_at_call 57; refine (HO.out _).mono ?_; rintro e w5 ⟨rfl, rfl⟩))
      go_roundw
      case rel => exact ⟨k + 1, M, by omega, rfl, by go_num, E4.out, hM, HN.out⟩
      case measure => simp [intOf]; omega
    · have HF : Hid (outF a.ls = N) := by
        show _ = _
        rw [← Hr.out, List.drop_of_length_le (by omega)]; rfl
      go_wp2_with fail
      go_ret
      rw [HF.out]
      exact ⟨rfl, F0.out⟩

set_option maxHeartbeats 4000000 in
theorem ause_calls (a : Ac) (AL AC : Option Addr) (cL cC : Nat) (w : World) (ha : RdA w a AL AC) (hok : a.ok) :
    Calls Tryd.prog 96 #[acA a AL cL AC cC] w (RetV w (.int .u64 (useN a))) := by
  have HA := Lib.hid ha
  have OK := Lib.hid hok
  have hu := hok.2.2.1
  have ho := outF_lt a.ls
  have HU : Hid (useN a = addN a.used (outF a.ls)) := by show _ = _; rfl
  have HO : Hid (∀ W, Ext w W → Calls Tryd.prog 52 #[.agg #[.string a.ten, .int .u64 a.cap, .int .u64 a.used, .int .u64 a.bits, .int .u64 a.per, .slice AL a.ls.length cL, .slice AC a.cl.length cC]] W (RetV W (.int .u64 (outF a.ls)))) := fun W e => aout_calls a AL AC cL cC W (HA.out.ext e) OK.out
  have HP : Hid (∀ W, Calls Tryd.prog 57 #[.int .u64 a.used, .int .u64 (outF a.ls)] W fun e w' => e = .returned (.int .u64 (addN a.used (outF a.ls))) ∧ W = w') := fun W => add_calls a.used _ W hu ho
  clear ha hok
  generalize outF a.ls = O at *
  generalize addN a.used O = R at *
  unfold acA
  go_enter Tryd.func96, Tryd.ntmps96
  go_wp2_with (first
    | ((with_reducible show wpList _ _ _ ({ dst := some 1, op := Op.box 26 _, type := _, pos := _, after := _, guard := _ } :: _) _ _); refine bxA _ rfl 26 _ rfl _ rfl ?_; intro g1 w1 hg hs1 k1 e1; have X1 := Lib.hid k1; have E1 := Lib.hid e1; clear hg hs1 k1 e1))
  have KS : Hid (∀ w', Ext w1 w' → Ext w1 w' ∧ w'.cell? ⟨g1, 0, none⟩ = some (.string a.ten) ∧ w'.cell? ⟨g1, 1, none⟩ = some (.int .u64 a.cap) ∧ w'.cell? ⟨g1, 2, none⟩ = some (.int .u64 a.used) ∧ w'.cell? ⟨g1, 3, none⟩ = some (.int .u64 a.bits) ∧ w'.cell? ⟨g1, 4, none⟩ = some (.int .u64 a.per) ∧ w'.cell? ⟨g1, 5, none⟩ = some (.slice AL a.ls.length cL) ∧ w'.cell? ⟨g1, 6, none⟩ = some (.slice AC a.cl.length cC)) := fun w' e => ⟨e, ac_cells (X1.out.ext e)⟩
  go_region_held3 (fun w' => Ext w1 w' ∧ w'.cell? ⟨g1, 0, none⟩ = some (.string a.ten) ∧ w'.cell? ⟨g1, 1, none⟩ = some (.int .u64 a.cap) ∧ w'.cell? ⟨g1, 2, none⟩ = some (.int .u64 a.used) ∧ w'.cell? ⟨g1, 3, none⟩ = some (.int .u64 a.bits) ∧ w'.cell? ⟨g1, 4, none⟩ = some (.int .u64 a.per) ∧ w'.cell? ⟨g1, 5, none⟩ = some (.slice AL a.ls.length cL) ∧ w'.cell? ⟨g1, 6, none⟩ = some (.slice AC a.cl.length cC))
    (first | exact KS.out _ (Ext.refl _).drew | exact KS.out _ (by assumption))
    (first | (go_at_call 52; refine (HO.out _ (E1.out.trans (by first | assumption | exact (Ext.refl _).drew))).mono ?_; rintro e w5 ⟨rfl, e5⟩; have S5 : Ext w1 w5 := Ext.trans (by first | assumption | exact (Ext.refl _).drew) e5; clear e5) | (go_at_call 57; refine (HP.out _).mono ?_; rintro e w6 ⟨rfl, rfl⟩))
  go_wp2_with fail
  go_ret
  rw [HU.out]
  exact ⟨rfl, E1.out.trans S5⟩

set_option maxHeartbeats 4000000 in
theorem aroom_calls (a : Ac) (AL AC : Option Addr) (cL cC : Nat) (w : World) (ha : RdA w a AL AC) (hok : a.ok) :
    Calls Tryd.prog 51 #[acA a AL cL AC cC] w (RetV w (.int .u64 (roomN a))) := by
  have HA := Lib.hid ha
  have OK := Lib.hid hok
  have hc := hok.2.1
  have hu := useN_lt a
  have HO : Hid (∀ W, Ext w W → Calls Tryd.prog 96 #[.agg #[.string a.ten, .int .u64 a.cap, .int .u64 a.used, .int .u64 a.bits, .int .u64 a.per, .slice AL a.ls.length cL, .slice AC a.cl.length cC]] W (RetV W (.int .u64 (useN a)))) := fun W e => ause_calls a AL AC cL cC W (HA.out.ext e) OK.out
  have HR : Hid (roomN a = if a.cap < useN a then 0 else a.cap - useN a) := by show _ = _; rfl
  clear ha hok
  generalize useN a = U at *
  unfold acA
  go_enter Tryd.func51, Tryd.ntmps51
  go_wp2_with (first
    | ((with_reducible show wpList _ _ _ ({ dst := some 1, op := Op.box 26 _, type := _, pos := _, after := _, guard := _ } :: _) _ _); refine bxA _ rfl 26 _ rfl _ rfl ?_; intro g1 w1 hg hs1 k1 e1; have X1 := Lib.hid k1; have E1 := Lib.hid e1; obtain ⟨a0, a1, a2, a3, a4, a5, a6⟩ := ac_cells k1; clear hg hs1 k1 e1))
  refine (HO.out _ E1.out).mono ?_
  rintro e w2 ⟨rfl, e2⟩
  have X2 := Lib.hid (X1.out.ext e2)
  have E2 := Lib.hid (E1.out.trans e2)
  clear e2 a0 a1 a2 a3 a4 a5 a6 X1 E1
  obtain ⟨a0, a1, a2, a3, a4, a5, a6⟩ := ac_cells X2.out
  by_cases h : a.cap < U
  · have HF : Hid (roomN a = 0) := by show _ = _; rw [HR.out, if_pos h]
    go_wp2_with fail
    go_ret
    rw [HF.out]
    exact ⟨rfl, E2.out⟩
  · have HF : Hid (roomN a = a.cap - U) := by show _ = _; rw [HR.out, if_neg h]
    have u1 : IntKind.u64.wrap ((a.cap : Int) - U) = ((a.cap - U : Nat) : Int) := by rw [IntWalk.u64_in _ (by omega)]; omega
    go_wp2_with fail
    go_ret
    rw [HF.out]
    exact ⟨ret_int' (by omega), E2.out⟩
end Go.Proofs.YtkbjnlbbfapgdaaDoor
