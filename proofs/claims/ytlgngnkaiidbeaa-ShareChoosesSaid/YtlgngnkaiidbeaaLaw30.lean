/- ShareChooses, walked. -/
import Derived.Test.YtlgngnkaiidbeaaShareI
import Derived.Test.YtlgngnkaiidbeaaShareG
import Derived.Test.YtlgngnkaiidbeaaArgEl
import Derived.Deep.RegionHeld3
set_option maxRecDepth 100000
set_option exponentiation.threshold 3000
set_option linter.unusedVariables false
set_option linter.unusedSimpArgs false
namespace Go.Proofs.Ytlgngnkaiidbeaa
open Go.RowKit Go.Shelf

set_option maxHeartbeats 8000000 in
theorem shareChooses_walk (A : Option Addr) (c : Nat) (xs : List Tn) (x : Nat) (w : World) (hb : RdE Tn.cs w A xs) (hlm : xs.length ≤ 9223372036854775807) (hn0 : A = none → c = 0) (hx : x < 18446744073709551616) :
    Calls Try.prog 11 #[.slice A xs.length c, .int .u64 (x : Int)] w (RetV w (.bool true)) := by
  by_cases hbig : 60 < xs.length
  · clear hb hx
    go_enter Try.func11, Try.ntmps11
    go_wp2_with fail
    refine (awake30 _).mono ?_
    rintro e w' ⟨rfl, x1⟩
    have X := Lib.hid x1
    clear x1
    go_wp2_with fail
    go_ret
    exact ⟨rfl, X.out⟩
  have hl : xs.length ≤ 60 := by omega
  have HSC : Hid (∀ W, Ext w W → _) := fun W e => schoose_calls A c xs x W (hb.ext e) (by omega) hn0 hx
  have HRC : Hid (∀ W, Ext w W → _) := fun W e => rchoose_calls A c xs x W (hb.ext e) (by omega) hx
  have HSS : Hid (∀ W, Ext w W → _) := fun W e => ssortT_calls A c xs W (hb.ext e) (by omega) hn0
  have HRS : Hid (∀ W, Ext w W → _) := fun W e => rsortT_calls A c xs W (hb.ext e) (by omega)
  have HSM : Hid (∀ W A1 B1 c1 d1, RdE Tn.cs W A1 (sortT xs) → RdE Tn.cs W B1 (sortT xs) → Calls Try.prog 61 #[.slice A1 (sortT xs).length c1, .slice B1 (sortT xs).length d1] W (RetV W (.bool true))) := fun W A1 B1 c1 d1 h1 h2 => rsameT_calls A1 B1 c1 d1 (sortT xs) W h1 h2 (Nat.le_trans (sortT_len xs) (by omega))
  have HAW := Lib.hid awake30
  have HB := Lib.hid hb
  have HME := Lib.hid (@choT_mem xs x)
  clear hb hn0 hx hbig hlm
  obtain ⟨t, is, hV⟩ : ∃ t is, choT xs x = (t, is) := ⟨_, _, rfl⟩
  rw [hV] at HSC HRC HME
  clear hV
  generalize sortT xs = S at *
  go_enter Try.func11, Try.ntmps11
  go_wp2_with fail
  refine (HSC.out _ (Ext.refl _)).mono ?_
  rintro e w1 ⟨rfl, e1⟩
  have E1 := Lib.hid e1
  clear e1 HSC
  go_wp2_with (first
    | ((with_reducible show wpList _ _ _ ({ dst := some 5, op := Op.alloc 93, type := _, pos := _, after := _, guard := _ } :: _) _ _); refine alA _ rfl 93 rfl _ _ zero_turn ?_; intro g5 w5 hg hs1 k3 e3; have X5 := Lib.hid k3; have T5 := Lib.hid (E1.out.trans e3); have G5 := Lib.hid (Nat.le_trans E1.out.size (Nat.le_of_eq hg)); clear hg hs1 k3 e3)
    | ((with_reducible show wpList _ _ _ ({ dst := none, op := Op.store 93 _ _, type := _, pos := _, after := _, guard := _ } :: _) _ _); refine stA _ rfl 93 93 _ _ rfl g5 _ (tnV t) rfl rfl X5.out size_turn rfl (tnV_one _) ?_; intro w6 hs k4 g4; have T6 := Lib.hid (show Ext w w6 from T5.out.grown g4 (fun k hk => by injection hk with hk; have := G5.out; omega)); have X6 := Lib.hid k4; clear hs k4 g4 X5 T5))
  refine (HRC.out _ T6.out).mono ?_
  rintro e w7 ⟨rfl, e7⟩
  have E7 := Lib.hid (T6.out.trans e7)
  have X7 := Lib.hid (X6.out.ext e7)
  clear e7 HRC X6
  go_wp2_with (first
    | ((with_reducible show wpList _ _ _ ({ dst := some 7, op := Op.alloc 93, type := _, pos := _, after := _, guard := _ } :: _) _ _); refine alA _ rfl 93 rfl _ _ zero_turn ?_; intro g7 w8 hg hs1 k3 e3; have X8 := Lib.hid k3; have T8 := Lib.hid (E7.out.trans e3); have Y8 := Lib.hid (X7.out.ext e3); have N8 : Hid (g5 ≠ g7) := Lib.hid (fun e => by have := X7.out.lt; omega); have G7 := Lib.hid (Nat.le_trans E7.out.size (Nat.le_of_eq hg)); clear hg hs1 k3 e3)
    | ((with_reducible show wpList _ _ _ ({ dst := none, op := Op.store 93 _ _, type := _, pos := _, after := _, guard := _ } :: _) _ _); refine stA _ rfl 93 93 _ _ rfl g7 _ (tnV t) rfl rfl X8.out size_turn rfl (tnV_one _) ?_; intro w9 hs k4 g4; have T9 := Lib.hid (show Ext w w9 from T8.out.grown g4 (fun k hk => by injection hk with hk; have := G7.out; omega)); have X9 := Lib.hid k4; have Y9 := Lib.hid (Y8.out.grown g4 (fun e => N8.out (by injection e))); clear hs k4 g4 X8 T8 Y8))
  go_loopw [9, 10] (fun o i wr => ∃ k : Nat, ∃ b : Bool, k ≤ xs.length ∧ i = .int .i64 (k : Int) ∧ o = .bool b ∧ Ext w9 wr ∧ (t ∈ xs.take k → b = true)) (fun _ i _ => xs.length - (intOf i).toNat)
  case atStart => exact ⟨0, false, by omega, rfl, rfl, Ext.refl _, fun h => by simp at h⟩
  case round =>
    obtain ⟨k, b, hk, rfl, rfl, e2, hbt⟩ := hrel
    have E2 := Lib.hid e2
    have HBT := Lib.hid hbt
    clear e2 hbt
    by_cases hlt : k < xs.length
    · have k1 : (k : Int) < (xs.length : Int) := by omega
      have HT : Hid (t ∈ xs.take (k + 1) ↔ t ∈ xs.take k ∨ t = xs[k]) := by
        show _ ↔ _
        rw [List.take_succ_eq_append_getElem hlt, List.mem_append, List.mem_singleton]
      obtain ⟨ad, rfl, x0, x1, x2⟩ := RdE.three (show RdE Tn.cs wr A xs from HB.out.ext (T9.out.trans E2.out)) hlt
      obtain ⟨y0, y1, y2⟩ := tn_cells (Y9.out.ext E2.out)
      generalize xs[k] = y at *
      cases b with
      | true =>
        go_wp2_with fail
        go_quiet (fail)
        have E3 := Lib.hid (E2.out.drewN nq)
        go_wp2_with fail
        go_roundw
        case rel => exact ⟨k + 1, true, by omega, by go_num, rfl, E3.out, fun _ => rfl⟩
        case measure => simp [intOf]; omega
      | false =>
        have hqq := qqTn y t
        by_cases hyt : y = t
        · rw [decide_eq_true hyt] at hqq
          clear hyt HT HBT
          go_wp2_with fail
          go_quiet (fail)
          have E3 := Lib.hid (E2.out.drewN nq)
          go_wp2_with fail
          go_roundw
          case rel => exact ⟨k + 1, true, by omega, by go_num, rfl, E3.out, fun _ => rfl⟩
          case measure => simp [intOf]; omega
        · rw [decide_eq_false hyt] at hqq
          have HNN : Hid (t ∈ xs.take (k + 1) → false = true) := fun h => by
            rcases HT.out.1 h with h | h
            · exact HBT.out h
            · exact absurd h.symm hyt
          clear hyt HT HBT
          go_wp2_with fail
          go_quiet (fail)
          have E3 := Lib.hid (E2.out.drewN nq)
          go_wp2_with fail
          go_roundw
          case rel => exact ⟨k + 1, false, by omega, by go_num, rfl, E3.out, HNN.out⟩
          case measure => simp [intOf]; omega
    · have k1 : ¬ (k : Int) < (xs.length : Int) := by omega
      have HOK : Hid (is = true → b = true) := fun h => HBT.out (by rw [List.take_of_length_le (by omega)]; exact HME.out h)
      have hqq := qqTn t t
      rw [decide_eq_true rfl] at hqq
      have KS : Hid (∀ W, Ext w9 W → Ext w9 W ∧ (W.cell? ⟨g5, 0, none⟩ = some (.int .i64 t.a) ∧ W.cell? ⟨g5, 1, none⟩ = some (.int .i64 t.b) ∧ W.cell? ⟨g5, 2, none⟩ = some (.int .i64 t.c)) ∧ (W.cell? ⟨g7, 0, none⟩ = some (.int .i64 t.a) ∧ W.cell? ⟨g7, 1, none⟩ = some (.int .i64 t.b) ∧ W.cell? ⟨g7, 2, none⟩ = some (.int .i64 t.c))) := fun W e => ⟨e, tn_cells (Y9.out.ext e), tn_cells (X9.out.ext e)⟩
      cases is with
      | true =>
        obtain rfl := HOK.out rfl
        have EW := Lib.hid E2.out; clear E2; go_wp2_with (first | (go_at_call 62; refine (HSS.out _ (T9.out.trans EW.out)).mono ?_; rintro e w10 ⟨A1, c1, rfl, o1, e10⟩; have T10 := Lib.hid (EW.out.trans e10); have P1 := Lib.hid (show RdE Tn.cs w10 A1 S from o1.rd); clear o1 e10) | (go_at_call 63; refine (HRS.out _ (T9.out.trans T10.out)).mono ?_; rintro e w11 ⟨A2, c2, rfl, o1, e10⟩; have T11 := Lib.hid (T10.out.trans e10); have P2 := Lib.hid (show RdE Tn.cs w11 A2 S from o1.rd); have P3 := Lib.hid (RdE.ext P1.out e10); clear o1 e10) | (go_at_call 61; refine (HSM.out _ _ _ _ _ P3.out P2.out).mono ?_; rintro e w12 ⟨rfl, e10⟩; have T12 := Lib.hid (T11.out.trans e10); obtain ⟨_, ⟨y0, y1, y2⟩, ⟨z0, z1, z2⟩⟩ := KS.out _ T12.out; clear e10) | (go_at_call 58; refine (HAW.out _).mono ?_; rintro e w13 ⟨rfl, e10⟩; have T13 := Lib.hid (T12.out.trans e10); clear e10))
        go_ret
        exact ⟨rfl, T9.out.trans T13.out⟩
      | false =>
        cases b with
        | true =>
          go_wp2_with fail
          have EW := Lib.hid E2.out; clear E2; go_wp2_with (first | (go_at_call 62; refine (HSS.out _ (T9.out.trans EW.out)).mono ?_; rintro e w10 ⟨A1, c1, rfl, o1, e10⟩; have T10 := Lib.hid (EW.out.trans e10); have P1 := Lib.hid (show RdE Tn.cs w10 A1 S from o1.rd); clear o1 e10) | (go_at_call 63; refine (HRS.out _ (T9.out.trans T10.out)).mono ?_; rintro e w11 ⟨A2, c2, rfl, o1, e10⟩; have T11 := Lib.hid (T10.out.trans e10); have P2 := Lib.hid (show RdE Tn.cs w11 A2 S from o1.rd); have P3 := Lib.hid (RdE.ext P1.out e10); clear o1 e10) | (go_at_call 61; refine (HSM.out _ _ _ _ _ P3.out P2.out).mono ?_; rintro e w12 ⟨rfl, e10⟩; have T12 := Lib.hid (T11.out.trans e10); obtain ⟨_, ⟨y0, y1, y2⟩, ⟨z0, z1, z2⟩⟩ := KS.out _ T12.out; clear e10) | (go_at_call 58; refine (HAW.out _).mono ?_; rintro e w13 ⟨rfl, e10⟩; have T13 := Lib.hid (T12.out.trans e10); clear e10))
          go_ret
          exact ⟨rfl, T9.out.trans T13.out⟩
        | false =>
          go_wp2_with fail
          have EW := Lib.hid E2.out; clear E2; go_wp2_with (first | (go_at_call 62; refine (HSS.out _ (T9.out.trans EW.out)).mono ?_; rintro e w10 ⟨A1, c1, rfl, o1, e10⟩; have T10 := Lib.hid (EW.out.trans e10); have P1 := Lib.hid (show RdE Tn.cs w10 A1 S from o1.rd); clear o1 e10) | (go_at_call 63; refine (HRS.out _ (T9.out.trans T10.out)).mono ?_; rintro e w11 ⟨A2, c2, rfl, o1, e10⟩; have T11 := Lib.hid (T10.out.trans e10); have P2 := Lib.hid (show RdE Tn.cs w11 A2 S from o1.rd); have P3 := Lib.hid (RdE.ext P1.out e10); clear o1 e10) | (go_at_call 61; refine (HSM.out _ _ _ _ _ P3.out P2.out).mono ?_; rintro e w12 ⟨rfl, e10⟩; have T12 := Lib.hid (T11.out.trans e10); obtain ⟨_, ⟨y0, y1, y2⟩, ⟨z0, z1, z2⟩⟩ := KS.out _ T12.out; clear e10) | (go_at_call 58; refine (HAW.out _).mono ?_; rintro e w13 ⟨rfl, e10⟩; have T13 := Lib.hid (T12.out.trans e10); clear e10))
          go_ret
          exact ⟨rfl, T9.out.trans T13.out⟩
end Go.Proofs.Ytlgngnkaiidbeaa
