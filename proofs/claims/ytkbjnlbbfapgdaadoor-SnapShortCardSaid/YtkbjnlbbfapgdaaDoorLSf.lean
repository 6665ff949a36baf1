/- The law SnapShort: the bytes of any ledger without their end, sealed, end too early; with more behind, sealed, they are none's. -/
import Derived.Test.YtkbjnlbbfapgdaaDoorLSb
set_option maxRecDepth 100000
set_option linter.unusedVariables false
set_option linter.unusedSimpArgs false
namespace Go.Proofs.YtkbjnlbbfapgdaaDoor
open Go.RowKit


def RetD1 (w : World) (v : Int) (e : Ending) (w' : World) : Prop := ∃ (s : Nat) (B : Option Addr) (n d : Nat), e = .returned (.tuple #[(.agg #[.int .u64 s, .slice B n d]), .int .i64 v]) ∧ Ext w w'
set_option maxHeartbeats 32000000 in
theorem snapShort_walk (seq : Nat) (A : Option Addr) (c : Nat) (xs : List Ax) (n : Int) (M : Option Addr) (mc : Nat) (ms : List UInt8) (w : World) (hs : seq < 18446744073709551616) (hb : RdL w A xs) (hcl : xs.length ≤ c) (hcm : c ≤ 9223372036854775807) (hn1 : -9223372036854775808 ≤ n) (hn2 : n ≤ 9223372036854775807) (hM : RdB w M ms) (hml : ms.length ≤ mc) (hmm : mc ≤ 9223372036854775807) (hL : Laid w) :
    Calls Tryd.prog 7 #[(.agg #[.int .u64 seq, .slice A xs.length c]), .int .i64 n, .slice M ms.length mc] w (RetV w (.bool true)) := by
  have HL := Lib.hid hL
  have HLA : Hid (∀ W, Ext w W → Calls Tryd.prog 22 #[(.agg #[.int .u64 seq, .slice A xs.length c])] W (RetV W (.bool (largeL (acs xs))))) := fun W e => rlargeL_calls seq A c xs W (hb.ext e) (by omega)
  have HAW : Hid (∀ W, Ext w W → Calls Tryd.prog 23 #[] W (RetV W (.bool true))) := fun W e => awake17 W (HL.out.ext e)
  by_cases h1 : largeL (acs xs) = true
  · rw [h1] at HLA
    clear h1 hb hM
    go_enter Tryd.func7, Tryd.ntmps7
    go_wp2_with (first | ((with_reducible show wpList _ _ _ ({ dst := some 3, op := Op.box 40 _, type := _, pos := _, after := _, guard := _ } :: _) _ _); refine bxA _ rfl 40 _ rfl _ rfl ?_; intro g1 w1 hg hs1 k1 e1; have X1 := Lib.hid k1; have E1 := Lib.hid e1; obtain ⟨a0, a1⟩ := lg_cells k1; clear hg hs1 k1 e1) | (go_at_call 22; refine (HLA.out _ E1.out).mono ?_; rintro e w2 ⟨rfl, e2⟩; have X2 := Lib.hid (X1.out.ext e2); have E2 := Lib.hid (E1.out.trans e2); clear e2 a0 a1; obtain ⟨a0, a1⟩ := lg_cells X2.out) | (go_at_call 23; refine (HAW.out _ E2.out).mono ?_; rintro e w9 ⟨rfl, e9⟩; have E9 := Lib.hid (Ext.trans E2.out e9); clear e9))
    go_ret
    exact ⟨rfl, E9.out⟩
  obtain ⟨hn12, hoks⟩ := largeL_ok ((Bool.not_eq_true _).mp h1) hb
  rw [(Bool.not_eq_true _).mp h1] at HLA
  clear h1
  have hok : ∀ x ∈ xs, x.a.ok := fun x hx => (hoks x hx).1
  have hsm : ∀ a ∈ acs xs, small a := fun a ha => by obtain ⟨x, hx, rfl⟩ := List.mem_map.1 ha; have := hoks x hx; unfold small; omega
  have hoa : ∀ a ∈ acs xs, a.ok ∧ a.ls.length ≤ 100 := fun a ha => by obtain ⟨x, hx, rfl⟩ := List.mem_map.1 ha; have := hoks x hx; exact ⟨this.1, by omega⟩
  have HRR : Hid (∀ W, Ext w W → Calls Tryd.prog 25 #[(.agg #[.int .u64 seq, .slice A xs.length c])] W (RetV W (.bool (rightL (acs xs))))) := fun W e => rlright_calls seq A c xs W (hb.ext e) hok (by omega)
  by_cases hr : rightL (acs xs) = false
  · rw [hr] at HRR
    clear hr hb hok hoks hsm hoa hM
    go_enter Tryd.func7, Tryd.ntmps7
    go_wp2_with (first | ((with_reducible show wpList _ _ _ ({ dst := some 3, op := Op.box 40 _, type := _, pos := _, after := _, guard := _ } :: _) _ _); refine bxA _ rfl 40 _ rfl _ rfl ?_; intro g1 w1 hg hs1 k1 e1; have X1 := Lib.hid k1; have E1 := Lib.hid e1; obtain ⟨a0, a1⟩ := lg_cells k1; clear hg hs1 k1 e1) | (go_at_call 22; refine (HLA.out _ E1.out).mono ?_; rintro e w2 ⟨rfl, e2⟩; have X2 := Lib.hid (X1.out.ext e2); have E2 := Lib.hid (E1.out.trans e2); clear e2 a0 a1; obtain ⟨a0, a1⟩ := lg_cells X2.out) | (go_at_call 25; refine (HRR.out _ E2.out).mono ?_; rintro e w3 ⟨rfl, e3⟩; have X3 := Lib.hid (X2.out.ext e3); have E3 := Lib.hid (E2.out.trans e3); clear e3 a0 a1; obtain ⟨a0, a1⟩ := lg_cells X3.out) | (go_at_call 23; refine (HAW.out _ E3.out).mono ?_; rintro e w9 ⟨rfl, e9⟩; have E9 := Lib.hid (Ext.trans E3.out e9); clear e9))
    go_ret
    exact ⟨rfl, E9.out⟩
  have hr : rightL (acs xs) = true := by simpa using hr
  rw [hr] at HRR
  by_cases h100 : 100 < ms.length
  · have q1 : decide ((100 : Int) < (ms.length : Int)) = true := decide_eq_true (by omega)
    clear hr hb hok hoks hsm hoa hM h100
    go_enter Tryd.func7, Tryd.ntmps7
    go_wp2_with (first | ((with_reducible show wpList _ _ _ ({ dst := some 3, op := Op.box 40 _, type := _, pos := _, after := _, guard := _ } :: _) _ _); refine bxA _ rfl 40 _ rfl _ rfl ?_; intro g1 w1 hg hs1 k1 e1; have X1 := Lib.hid k1; have E1 := Lib.hid e1; obtain ⟨a0, a1⟩ := lg_cells k1; clear hg hs1 k1 e1) | (go_at_call 22; refine (HLA.out _ E1.out).mono ?_; rintro e w2 ⟨rfl, e2⟩; have X2 := Lib.hid (X1.out.ext e2); have E2 := Lib.hid (E1.out.trans e2); clear e2 a0 a1; obtain ⟨a0, a1⟩ := lg_cells X2.out) | (go_at_call 25; refine (HRR.out _ E2.out).mono ?_; rintro e w3 ⟨rfl, e3⟩; have X3 := Lib.hid (X2.out.ext e3); have E3 := Lib.hid (E2.out.trans e3); clear e3 a0 a1; obtain ⟨a0, a1⟩ := lg_cells X3.out) | (go_at_call 23; refine (HAW.out _ E3.out).mono ?_; rintro e w9 ⟨rfl, e9⟩; have E9 := Lib.hid (Ext.trans E3.out e9); clear e9))
    go_ret
    exact ⟨rfl, E9.out⟩
  have q1 : decide ((100 : Int) < (ms.length : Int)) = false := decide_eq_false (by omega)
  have hms100 : ms.length ≤ 100 := by omega
  have HBY : Hid (∀ W, Ext w W → Calls Tryd.prog 28 #[(.agg #[.int .u64 seq, .slice A xs.length c])] W (RetB W (snapB seq (acs xs)))) := fun W e => rbytes17_calls seq A c xs W hs (hb.ext e) hok hsm hn12
  have hll : (acs xs).length ≤ 12 := by rw [acs_len]; exact hn12
  obtain ⟨b, hbb⟩ : ∃ b, b = encL seq (acs xs) := ⟨_, rfl⟩
  have HSB : Hid ((snapB seq (acs xs)).length = b.length + 4 ∧ (snapB seq (acs xs)).take b.length = b) := by
    refine ⟨by unfold snapB; rw [sealB_length, hbb], ?_⟩
    unfold snapB sealB
    rw [← hbb, List.take_left]
  have hbl : b.length ≤ 70000 := by
    have h1 := encAs_le hsm
    rw [hbb]
    simp only [encL, List.length_append, leB_length]
    omega
  have HMO := Lib.hid (fun (ht : ms ≠ []) => dec_more hs hll hr hoa ht)
  have HM0 := Lib.hid (dec_back hs hll hr hoa)
  have HSH := Lib.hid (fun (k : Nat) (hk : k < b.length) => dec_short (n := k) hs hll hr hoa (by rw [← hbb]; exact hk))
  rw [← hbb] at HMO HSH
  have hsn : snapB seq (acs xs) = sealB b := by rw [hbb]; rfl
  rw [hsn] at HM0
  have HSN := Lib.hid hsn
  have HMR := Lib.hid hM
  have hbl1 : (1 : Nat) ≤ b.length := by rw [hbb]; simp only [encL, List.length_append, leB_length]; omega
  clear hr hb hok hoks hsm hoa hM h100 hll hbb hsn
  generalize snapB seq (acs xs) = z at *
  have hzl : z.length = b.length + 4 := HSB.out.1
  have hm3 : IntKind.i64.wrap ((z.length : Int) - 4) = (b.length : Int) := by rw [IntWalk.i64_in _ (by omega)]; omega
  have hm4 : (0 : Int) ≤ (b.length : Int) := by omega
  by_cases hn : n < 0 ∨ (b.length : Int) ≤ n
  · have q2 : (decide (n < 0) = true) ∨ (decide (n < 0) = false ∧ decide ((b.length : Int) ≤ n) = true) := by
      by_cases h : n < 0
      · exact .inl (decide_eq_true h)
      · exact .inr ⟨decide_eq_false h, decide_eq_true (by omega)⟩
    have HZL := Lib.hid hzl
    clear hn HMO HM0 HSH hzl
    rcases q2 with q2 | ⟨q2, q3⟩
    all_goals
      go_enter Tryd.func7, Tryd.ntmps7
      go_wp2_with (first
        | ((with_reducible show wpList _ _ _ ({ dst := some 3, op := Op.box 40 _, type := _, pos := _, after := _, guard := _ } :: _) _ _); refine bxA _ rfl 40 _ rfl _ rfl ?_; intro g1 w1 hg hs1 k1 e1; have X1 := Lib.hid k1; have E1 := Lib.hid e1; obtain ⟨a0, a1⟩ := lg_cells k1; clear hg hs1 k1 e1)
        | (go_at_call 22; refine (HLA.out _ E1.out).mono ?_; rintro e w2 ⟨rfl, e2⟩; have X2 := Lib.hid (X1.out.ext e2); have E2 := Lib.hid (E1.out.trans e2); clear e2 a0 a1; obtain ⟨a0, a1⟩ := lg_cells X2.out)
        | (go_at_call 25; refine (HRR.out _ E2.out).mono ?_; rintro e w3 ⟨rfl, e3⟩; have X3 := Lib.hid (X2.out.ext e3); have E3 := Lib.hid (E2.out.trans e3); clear e3 a0 a1; obtain ⟨a0, a1⟩ := lg_cells X3.out)
        | (go_at_call 28; refine (HBY.out _ E3.out).mono ?_; rintro e w4 ⟨B4, d4, rfl, o4, e4⟩; have O4 := Lib.hid o4; have E4 := Lib.hid (E3.out.trans e4); have hd4 : (b.length : Int) ≤ (d4 : Int) := (by have := o4.cap; have := HZL.out; omega); clear o4 e4 a0 a1)
        | (go_at_call 23; refine (HAW.out _ E4.out).mono ?_; rintro e w9 ⟨rfl, e9⟩; have E9 := Lib.hid (Ext.trans E4.out e9); clear e9))
      go_ret
      exact ⟨rfl, E9.out⟩
  obtain ⟨k, rfl⟩ : ∃ k : Nat, n = k := ⟨n.toNat, by omega⟩
  have hkb : k < b.length := by omega
  have q2 : decide ((k : Int) < 0) = false := decide_eq_false (by omega)
  have q3 : decide ((b.length : Int) ≤ (k : Int)) = false := decide_eq_false (by omega)
  have q4 : decide (b.length ≤ k) = false := decide_eq_false (by omega)
  have HZL := Lib.hid hzl
  obtain ⟨bm, hbm⟩ : ∃ bm, bm = b ++ ms := ⟨_, rfl⟩
  have HBM := Lib.hid hbm
  have hbml : bm.length ≤ 80000 := by rw [hbm, List.length_append]; omega
  have HD1 : Hid (∀ W B d, OwnB W 0 B d (sealB (b.take k)) → Ext w W → Calls Tryd.prog 26 #[.slice B (sealB (b.take k)).length d] W (RetD1 W 1)) := fun W B d o e => by
    have h := sdec_calls B d _ W o.rd (by rw [sealB_length, List.length_take]; omega) o.cap o.capmax (HL.out.ext e)
    rw [HSH.out k hkb] at h
    exact h.mono fun e' w' ⟨B, d, ys, h1, _, _, _, h2⟩ => ⟨0, B, ys.length, d, h1, h2⟩
  have HSE1 : Hid (∀ W B d, RdB W B (b.take k) → Calls Tryd.prog 30 #[.slice B k d] W (RetB W (sealB (b.take k)))) := fun W B d h => by
    have hl : (b.take k).length = k := by rw [List.length_take]; omega
    have h2 := rseal_calls B d (b.take k) W h (by omega)
    rwa [hl] at h2
  have HSE2 : Hid (∀ W B d, RdB W B bm → Calls Tryd.prog 30 #[.slice B bm.length d] W (RetB W (sealB bm))) := fun W B d h => rseal_calls B d bm W h (by omega)
  have HB4 : Hid (∀ W B, RdB W B z → RdB W B b) := fun W B h => by have h2 := h.take b.length; rwa [HSB.out.2] at h2
  have HLB := Lib.hid (show b.length ≤ 70000 ∧ ms.length ≤ 100 from ⟨hbl, by omega⟩)
  generalize hzk : sealB (b.take k) = zk at *
  have hq9 : ∃ v : Int, (∀ W B d, OwnB W 0 B d (sealB bm) → Ext w W → Calls Tryd.prog 26 #[.slice B (sealB bm).length d] W (RetD1 W v)) ∧ ((ms = [] ∧ v = 0) ∨ (ms ≠ [] ∧ v = 2)) := by
    by_cases hms : ms = []
    · refine ⟨0, fun W B d o e => ?_, .inl ⟨hms, rfl⟩⟩
      have h := sdec_calls B d _ W o.rd (by rw [sealB_length]; omega) o.cap o.capmax (HL.out.ext e)
      have e0 : decS (sealB bm) = ((seq, acs xs), 0) := by rw [hbm, hms, List.append_nil]; exact HM0.out
      rw [e0] at h
      exact h.mono fun e' w' ⟨B, d, ys, h1, _, _, _, h2⟩ => ⟨seq, B, ys.length, d, h1, h2⟩
    · refine ⟨2, fun W B d o e => ?_, .inr ⟨hms, rfl⟩⟩
      have h := sdec_calls B d _ W o.rd (by rw [sealB_length]; omega) o.cap o.capmax (HL.out.ext e)
      have e0 : decS (sealB bm) = ((0, []), 2) := by rw [hbm]; exact HMO.out hms
      rw [e0] at h
      exact h.mono fun e' w' ⟨B, d, ys, h1, _, _, _, h2⟩ => ⟨0, B, ys.length, d, h1, h2⟩
  obtain ⟨v, hv, hvc⟩ := hq9
  have HD2 := Lib.hid hv
  clear hn HMO HM0 HSH hzl hbm hv hzk
  generalize sealB bm = zm at *
  have hk2 : (0 : Int) ≤ (k : Int) := by omega
  have hkl : (k : Int) < (b.length : Int) := by omega
  rcases hvc with ⟨hms, rfl⟩ | ⟨hms, rfl⟩
  · have hm0 : ((ms.length : Int) == 0) = true := by rw [hms]; rfl
    clear hms
    go_enter Tryd.func7, Tryd.ntmps7
    go_wp2_with (first | ((with_reducible show wpList _ _ _ ({ dst := some 3, op := Op.box 40 _, type := _, pos := _, after := _, guard := _ } :: _) _ _); refine bxA _ rfl 40 _ rfl _ rfl ?_; intro g1 w1 hg hs1 k1 e1; have X1 := Lib.hid k1; have E1 := Lib.hid e1; obtain ⟨a0, a1⟩ := lg_cells k1; clear hg hs1 k1 e1) | (go_at_call 22; refine (HLA.out _ E1.out).mono ?_; rintro e w2 ⟨rfl, e2⟩; have X2 := Lib.hid (X1.out.ext e2); have E2 := Lib.hid (E1.out.trans e2); clear e2 a0 a1; obtain ⟨a0, a1⟩ := lg_cells X2.out) | (go_at_call 25; refine (HRR.out _ E2.out).mono ?_; rintro e w3 ⟨rfl, e3⟩; have X3 := Lib.hid (X2.out.ext e3); have E3 := Lib.hid (E2.out.trans e3); clear e3 a0 a1; obtain ⟨a0, a1⟩ := lg_cells X3.out) | (go_at_call 28; refine (HBY.out _ E3.out).mono ?_; rintro e w4 ⟨B4, d4, rfl, o4, e4⟩; have O4 := Lib.hid o4; have E4 := Lib.hid (E3.out.trans e4); have hd4 : (b.length : Int) ≤ (d4 : Int) := (by have := o4.cap; have := HZL.out; omega); have hd5 : (k : Int) ≤ (d4 : Int) := (by omega); clear o4 e4 a0 a1) | (go_at_call_of 30 (Value.slice B4 k d4); refine (HSE1.out _ _ _ ((HB4.out _ _ O4.out.rd).take k)).mono ?_; rintro e w5 ⟨B5, d5, rfl, o5, e5⟩; have P5 := Lib.hid (o5.lower (Nat.zero_le _)); have O5 := Lib.hid (O4.out.ext e5); have E5 := Lib.hid (E4.out.trans e5); clear o5 e5) | (go_at_call_of 26 (Value.slice B5 zk.length d5); refine (HD1.out _ _ _ P5.out E5.out).mono ?_; rintro e w6 ⟨s6, B6, n6, d6, rfl, e6⟩; have O6 := Lib.hid (O5.out.ext e6); have E6 := Lib.hid (E5.out.trans e6); clear e6) | ((with_reducible show wpList _ _ _ ({ dst := some 8, op := Op.alloc 40, type := _, pos := _, after := _, guard := _ } :: _) _ _); refine alA _ rfl 40 rfl _ _ zero_lg ?_; intro g8 w7 hg hs1 k1 e1; have G8 := Lib.hid (Nat.le_of_eq hg); have Y7 := Lib.hid k1; have T7 := Lib.hid e1; clear hg hs1 k1 e1) | ((with_reducible show wpList _ _ _ ({ dst := none, op := Op.store 40 (Operand.tmp 8) _, type := _, pos := _, after := _, guard := _ } :: _) _ _); refine stA _ rfl 40 40 _ _ rfl g8 _ #[.int .u64 s6, .slice B6 n6 d6] rfl rfl Y7.out size_lg rfl (lg_one s6 _ _ _) ?_; intro w8 hs k4 q4; have T8 := Lib.hid (show Ext w6 w8 from T7.out.grown q4 (fun q hq => by injection hq with hq; have := G8.out; omega)); have O8 := Lib.hid (O6.out.ext T8.out); have E8 := Lib.hid (E6.out.trans T8.out); clear hs k4 q4) | (at_builtin; refine cpyE w8 rfl (.tmp 50) (.tmp 51) rfl rfl B4 d4 b rfl ?_ (HB4.out _ _ O8.out.rd) (by have := HLB.out; omega); intro A10 c10 w10 h1 e1; have P10 := Lib.hid h1; have S10 := Lib.hid e1.size; have E10 := Lib.hid (E8.out.trans e1); clear h1 e1) | (at_builtin; refine appB _ rfl (.tmp 52) (.tmp 53) rfl w8.heap.size A10 c10 b rfl M mc ms rfl ?_ P10.out (HMR.out.ext E10.out) (by have := HLB.out; omega) S10.out; intro A11 c11 w11 h1 h2 h3; rw [← HBM.out]; rw [← HBM.out] at h1; have P11 := Lib.hid h1; have E11 := Lib.hid (E10.out.grown h2 (fun q hq => by have := (P10.out.base_ q hq).1; have := E8.out.size; omega)); clear h1 h2 h3) | (go_at_call_of 30 (Value.slice A11 bm.length c11); refine (HSE2.out _ _ _ P11.out.rd).mono ?_; rintro e w12 ⟨B12, d12, rfl, o12, e12⟩; have P12 := Lib.hid (o12.lower (Nat.zero_le _)); have E12 := Lib.hid (E11.out.trans e12); clear o12 e12) | (go_at_call_of 26 (Value.slice B12 zm.length d12); refine (HD2.out _ _ _ P12.out E12.out).mono ?_; rintro e w13 ⟨s13, B13, n13, d13, rfl, e13⟩; have E13 := Lib.hid (E12.out.trans e13); clear e13) | ((with_reducible show wpList _ _ _ ({ dst := some 10, op := Op.alloc 40, type := _, pos := _, after := _, guard := _ } :: _) _ _); refine alA _ rfl 40 rfl _ _ zero_lg ?_; intro g10 w14 hg hs1 k1 e1; have G10 := Lib.hid (Nat.le_of_eq hg); have Y14 := Lib.hid k1; have T14 := Lib.hid e1; clear hg hs1 k1 e1) | ((with_reducible show wpList _ _ _ ({ dst := none, op := Op.store 40 (Operand.tmp 10) _, type := _, pos := _, after := _, guard := _ } :: _) _ _); refine stA _ rfl 40 40 _ _ rfl g10 _ #[.int .u64 s13, .slice B13 n13 d13] rfl rfl Y14.out size_lg rfl (lg_one s13 _ _ _) ?_; intro w15 hs k4 q4; have T15 := Lib.hid (show Ext w13 w15 from T14.out.grown q4 (fun q hq => by injection hq with hq; have := G10.out; omega)); have E15 := Lib.hid (E13.out.trans T15.out); clear hs k4 q4) | (go_at_call 23; refine (HAW.out _ E15.out).mono ?_; rintro e w9 ⟨rfl, e9⟩; have E9 := Lib.hid (Ext.trans E15.out e9); clear e9))
    go_ret
    exact ⟨rfl, E9.out⟩
  · have hm0 : ((ms.length : Int) == 0) = false := by have := List.length_pos_iff.2 hms; simp; omega
    clear hms
    go_enter Tryd.func7, Tryd.ntmps7
    go_wp2_with (first | ((with_reducible show wpList _ _ _ ({ dst := some 3, op := Op.box 40 _, type := _, pos := _, after := _, guard := _ } :: _) _ _); refine bxA _ rfl 40 _ rfl _ rfl ?_; intro g1 w1 hg hs1 k1 e1; have X1 := Lib.hid k1; have E1 := Lib.hid e1; obtain ⟨a0, a1⟩ := lg_cells k1; clear hg hs1 k1 e1) | (go_at_call 22; refine (HLA.out _ E1.out).mono ?_; rintro e w2 ⟨rfl, e2⟩; have X2 := Lib.hid (X1.out.ext e2); have E2 := Lib.hid (E1.out.trans e2); clear e2 a0 a1; obtain ⟨a0, a1⟩ := lg_cells X2.out) | (go_at_call 25; refine (HRR.out _ E2.out).mono ?_; rintro e w3 ⟨rfl, e3⟩; have X3 := Lib.hid (X2.out.ext e3); have E3 := Lib.hid (E2.out.trans e3); clear e3 a0 a1; obtain ⟨a0, a1⟩ := lg_cells X3.out) | (go_at_call 28; refine (HBY.out _ E3.out).mono ?_; rintro e w4 ⟨B4, d4, rfl, o4, e4⟩; have O4 := Lib.hid o4; have E4 := Lib.hid (E3.out.trans e4); have hd4 : (b.length : Int) ≤ (d4 : Int) := (by have := o4.cap; have := HZL.out; omega); have hd5 : (k : Int) ≤ (d4 : Int) := (by omega); clear o4 e4 a0 a1) | (go_at_call_of 30 (Value.slice B4 k d4); refine (HSE1.out _ _ _ ((HB4.out _ _ O4.out.rd).take k)).mono ?_; rintro e w5 ⟨B5, d5, rfl, o5, e5⟩; have P5 := Lib.hid (o5.lower (Nat.zero_le _)); have O5 := Lib.hid (O4.out.ext e5); have E5 := Lib.hid (E4.out.trans e5); clear o5 e5) | (go_at_call_of 26 (Value.slice B5 zk.length d5); refine (HD1.out _ _ _ P5.out E5.out).mono ?_; rintro e w6 ⟨s6, B6, n6, d6, rfl, e6⟩; have O6 := Lib.hid (O5.out.ext e6); have E6 := Lib.hid (E5.out.trans e6); clear e6) | ((with_reducible show wpList _ _ _ ({ dst := some 8, op := Op.alloc 40, type := _, pos := _, after := _, guard := _ } :: _) _ _); refine alA _ rfl 40 rfl _ _ zero_lg ?_; intro g8 w7 hg hs1 k1 e1; have G8 := Lib.hid (Nat.le_of_eq hg); have Y7 := Lib.hid k1; have T7 := Lib.hid e1; clear hg hs1 k1 e1) | ((with_reducible show wpList _ _ _ ({ dst := none, op := Op.store 40 (Operand.tmp 8) _, type := _, pos := _, after := _, guard := _ } :: _) _ _); refine stA _ rfl 40 40 _ _ rfl g8 _ #[.int .u64 s6, .slice B6 n6 d6] rfl rfl Y7.out size_lg rfl (lg_one s6 _ _ _) ?_; intro w8 hs k4 q4; have T8 := Lib.hid (show Ext w6 w8 from T7.out.grown q4 (fun q hq => by injection hq with hq; have := G8.out; omega)); have O8 := Lib.hid (O6.out.ext T8.out); have E8 := Lib.hid (E6.out.trans T8.out); clear hs k4 q4) | (at_builtin; refine cpyE w8 rfl (.tmp 50) (.tmp 51) rfl rfl B4 d4 b rfl ?_ (HB4.out _ _ O8.out.rd) (by have := HLB.out; omega); intro A10 c10 w10 h1 e1; have P10 := Lib.hid h1; have S10 := Lib.hid e1.size; have E10 := Lib.hid (E8.out.trans e1); clear h1 e1) | (at_builtin; refine appB _ rfl (.tmp 52) (.tmp 53) rfl w8.heap.size A10 c10 b rfl M mc ms rfl ?_ P10.out (HMR.out.ext E10.out) (by have := HLB.out; omega) S10.out; intro A11 c11 w11 h1 h2 h3; rw [← HBM.out]; rw [← HBM.out] at h1; have P11 := Lib.hid h1; have E11 := Lib.hid (E10.out.grown h2 (fun q hq => by have := (P10.out.base_ q hq).1; have := E8.out.size; omega)); clear h1 h2 h3) | (go_at_call_of 30 (Value.slice A11 bm.length c11); refine (HSE2.out _ _ _ P11.out.rd).mono ?_; rintro e w12 ⟨B12, d12, rfl, o12, e12⟩; have P12 := Lib.hid (o12.lower (Nat.zero_le _)); have E12 := Lib.hid (E11.out.trans e12); clear o12 e12) | (go_at_call_of 26 (Value.slice B12 zm.length d12); refine (HD2.out _ _ _ P12.out E12.out).mono ?_; rintro e w13 ⟨s13, B13, n13, d13, rfl, e13⟩; have E13 := Lib.hid (E12.out.trans e13); clear e13) | ((with_reducible show wpList _ _ _ ({ dst := some 10, op := Op.alloc 40, type := _, pos := _, after := _, guard := _ } :: _) _ _); refine alA _ rfl 40 rfl _ _ zero_lg ?_; intro g10 w14 hg hs1 k1 e1; have G10 := Lib.hid (Nat.le_of_eq hg); have Y14 := Lib.hid k1; have T14 := Lib.hid e1; clear hg hs1 k1 e1) | ((with_reducible show wpList _ _ _ ({ dst := none, op := Op.store 40 (Operand.tmp 10) _, type := _, pos := _, after := _, guard := _ } :: _) _ _); refine stA _ rfl 40 40 _ _ rfl g10 _ #[.int .u64 s13, .slice B13 n13 d13] rfl rfl Y14.out size_lg rfl (lg_one s13 _ _ _) ?_; intro w15 hs k4 q4; have T15 := Lib.hid (show Ext w13 w15 from T14.out.grown q4 (fun q hq => by injection hq with hq; have := G10.out; omega)); have E15 := Lib.hid (E13.out.trans T15.out); clear hs k4 q4) | (go_at_call 23; refine (HAW.out _ E15.out).mono ?_; rintro e w9 ⟨rfl, e9⟩; have E9 := Lib.hid (Ext.trans E15.out e9); clear e9))
    go_ret
    exact ⟨rfl, E9.out⟩
end Go.Proofs.YtkbjnlbbfapgdaaDoor

