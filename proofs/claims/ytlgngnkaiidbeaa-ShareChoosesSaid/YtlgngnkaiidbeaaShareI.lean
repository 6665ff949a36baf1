/- ref30.Choose, ref30.Same. -/
import Derived.Test.YtlgngnkaiidbeaaShareH
set_option maxRecDepth 100000
set_option exponentiation.threshold 3000
set_option linter.unusedVariables false
set_option linter.unusedSimpArgs false
namespace Go.Proofs.Ytlgngnkaiidbeaa
open Go.RowKit Go.Shelf

set_option maxHeartbeats 4000000 in
theorem rchoose_calls (A : Option Addr) (c : Nat) (xs : List Tn) (x : Nat) (w : World) (hb : RdE Tn.cs w A xs) (hl : xs.length ≤ 100000) (hx : x < 18446744073709551616) :
    Calls Try.prog 60 #[.slice A xs.length c, .int .u64 (x : Int)] w fun e w' => e = .returned (.tuple #[.agg (tnV (choT xs x).1), .bool (choT xs x).2]) ∧ Ext w w' := by
  have HS : Hid (∀ W, Ext w W → _) := fun W e => rsortT_calls A c xs W (hb.ext e) hl
  have HL := Lib.hid (Nat.le_trans (sortT_len xs) hl)
  have HCN := Lib.hid (@choT_nil xs x)
  have HCS : Hid (∀ (P : Nat) (hP : pickN x (sortT xs).length = (P : Int)) (h : P < (sortT xs).length), choT xs x = ((sortT xs)[P], true)) := fun P hP h => choT_some hP h
  clear hb hl
  generalize choT xs x = V at *
  generalize hS : sortT xs = S at *
  clear hS
  go_enter Try.func60, Try.ntmps60
  go_wp2_with ((with_reducible show wpList _ _ _ ({ dst := some 4, op := Op.alloc 93, type := _, pos := _, after := _, guard := _ } :: _) _ _); refine alA _ rfl 93 rfl _ _ zero_turn ?_; intro g5 w5 hg hs1 k3 e3; have X5 := Lib.hid k3; have T5 := Lib.hid e3; have G5 := Lib.hid (Nat.le_of_eq hg); clear hg hs1 k3 e3)
  refine (HS.out _ T5.out).mono ?_
  rintro e w6 ⟨A1, c1, rfl, o1, e1⟩
  have E6 := Lib.hid (T5.out.trans e1)
  have X6 := Lib.hid (X5.out.ext e1)
  have R6 := Lib.hid (show RdE Tn.cs w6 A1 S from o1.rd)
  clear o1 e1 X5 HS
  have hsl : S.length ≤ 100000 := HL.out
  by_cases h0 : S = []
  · have HV0 := Lib.hid (HCN.out h0)
    clear HCN HCS
    subst h0
    go_wp2_with ((with_reducible show wpList _ _ _ ({ dst := none, op := Op.store 93 _ _, type := _, pos := _, after := _, guard := _ } :: _) _ _); refine stA _ rfl 93 93 _ _ rfl g5 _ (tnV ⟨0, 0, 0⟩) rfl rfl X6.out size_turn rfl (tnV_one _) ?_; intro w7 hs k4 g4; have T7 := Lib.hid (show Ext w w7 from E6.out.grown g4 (fun k hk => by injection hk with hk; have := G5.out; omega)); have X7 := Lib.hid k4; clear hs k4 g4)
    exact ret_rowT Try.results60 g5 _ _ _ _ rfl rfl X7.out Try.underlying93 rfl size_turn ⟨by rw [HV0.out]; rfl, T7.out⟩
  · have hpos : 0 < S.length := List.length_pos_iff.2 h0
    have q0 : ((S.length : Int) == 0) = false := by simp; omega
    obtain ⟨P, hP⟩ : ∃ P : Nat, pickN x (S.length : Int) = (P : Int) := ⟨(pickN x (S.length : Int)).toNat, by have := pick_rng (n := (S.length : Int)) hx (by omega); omega⟩
    have hPn : P < S.length := by have := pick_rng (n := (S.length : Int)) hx (by omega); omega
    have HPK : Hid (∀ W, Calls Try.prog 26 #[.int .u64 (x : Int), .int .i64 (S.length : Int)] W fun e w' => e = .returned (.int .i64 (P : Int)) ∧ W = w') := fun W => by
      have h := rpick_calls x (S.length : Int) W hx (by omega) (by omega)
      rw [hP] at h
      exact h
    have HV := Lib.hid (HCS.out P hP hPn)
    obtain ⟨ad, rfl, x0, x1, x2⟩ := RdE.three R6.out hPn
    clear h0 hP HCN HCS hx
    generalize S[P] = t at *
    go_wp2_with (first
      | (go_at_call 26; refine (HPK.out _).mono ?_; rintro e w' ⟨rfl, rfl⟩)
      | ((with_reducible show wpList _ _ _ ({ dst := none, op := Op.store 93 _ _, type := _, pos := _, after := _, guard := _ } :: _) _ _); refine stA _ rfl 93 93 _ _ rfl g5 _ (tnV t) rfl rfl X6.out size_turn rfl (tnV_one _) ?_; intro w7 hs k4 g4; have T7 := Lib.hid (show Ext w w7 from E6.out.grown g4 (fun k hk => by injection hk with hk; have := G5.out; omega)); have X7 := Lib.hid k4; clear hs k4 g4))
    exact ret_rowT Try.results60 g5 _ _ _ _ rfl rfl X7.out Try.underlying93 rfl size_turn ⟨by rw [HV.out]; rfl, T7.out⟩

set_option maxHeartbeats 4000000 in
/-- two lists that are the same -/
theorem rsameT_calls (A B : Option Addr) (c d : Nat) (xs : List Tn) (w : World) (ha : RdE Tn.cs w A xs) (hb : RdE Tn.cs w B xs) (hl : xs.length ≤ 100000) :
    Calls Try.prog 61 #[.slice A xs.length c, .slice B xs.length d] w (RetV w (.bool true)) := by
  have HA := Lib.hid ha
  have HB := Lib.hid hb
  clear ha hb
  go_enter Try.func61, Try.ntmps61
  go_wp2_with fail
  go_loopw [5] (fun i wr => ∃ k : Nat, k ≤ xs.length ∧ i = .int .i64 k ∧ Ext w wr) (fun i _ => xs.length - (intOf i).toNat)
  case atStart => exact ⟨0, by omega, rfl, Ext.refl _⟩
  case round =>
    obtain ⟨k, hk, rfl, hE⟩ := hrel
    have E0 := Lib.hid hE
    clear hE
    by_cases hlt : k < xs.length
    · obtain ⟨ad, rfl, a0, a1, a2⟩ := RdE.three (show RdE Tn.cs wr A xs from HA.out.ext E0.out) hlt
      obtain ⟨bd, rfl, b0, b1, b2⟩ := RdE.three (show RdE Tn.cs wr B xs from HB.out.ext E0.out) hlt
      generalize xs[k] = x at *
      have k1 : (k : Int) < (xs.length : Int) := by omega
      have hne := neTn x x
      rw [decide_eq_true rfl] at hne
      go_wp2_with fail
      go_quiet (fail)
      have E1 := Lib.hid (E0.out.drewN nq)
      go_wp2_with fail
      go_roundw
      case rel => exact ⟨k + 1, by omega, by go_num, E1.out⟩
      case measure => simp [intOf]; omega
    · have k1 : ¬ (k : Int) < (xs.length : Int) := by omega
      go_wp2_with fail
      go_ret
      exact ⟨rfl, E0.out⟩
end Go.Proofs.Ytlgngnkaiidbeaa
