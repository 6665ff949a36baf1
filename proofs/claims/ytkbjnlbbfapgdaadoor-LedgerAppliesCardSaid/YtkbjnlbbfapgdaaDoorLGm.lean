/- ref16.Check. The law LedgerApplies: any ledger whose names rise behind any record, or what is wrong with it; any tenant's account. -/
import Derived.Test.YtkbjnlbbfapgdaaDoorLGk
import Derived.Test.YtkbjnlbbfapgdaaDoorLGa
import Derived.Deep.RegionWith
import Derived.Test.YtkbjnlbbfapgdaaDoorLGb
import Derived.Test.YtkbjnlbbfapgdaaDoorRef16e
import Derived.Deep.RegionHeld3
set_option maxRecDepth 100000
set_option linter.unusedVariables false
set_option linter.unusedSimpArgs false
namespace Go.Proofs.YtkbjnlbbfapgdaaDoor
open Go.RowKit

theorem rec_seq {r : Rc} (h : recE r.seq r.kind r.ten r.lease r.n r.bits = 0) : r.seq ≠ 0 := by
  intro h0
  unfold recE at h
  split at h
  · cases h
  · split at h
    · cases h
    · rw [if_pos (.inl h0)] at h
      cases h
theorem findR_neg (l : List Ac) (s : ByteArray) : findR l s < 0 ↔ thereB l s.data.toList = false := by
  unfold findR
  cases thereB l s.data.toList with
  | true => simp
  | false => simp
set_option maxHeartbeats 8000000 in
theorem rlchk_calls (seq : Nat) (A : Option Addr) (c : Nat) (xs : List Ax) (r : Rc) (w : World) (hb : RdL w A xs) (hok : ∀ x ∈ xs, x.a.ok) (hl : xs.length ≤ 100000) (hrk : r.ok) (ht : r.ten.size ≤ 1000000) (hs : seq < 18446744073709551616) :
    Calls Tryd.prog 35 #[lgA seq A xs.length c, rcA r] w (RetV w (.int .i64 (chkL seq (acs xs) r))) := by
  have HB := Lib.hid hb
  have HC : Hid (∀ W, Calls Tryd.prog 84 #[(.agg #[.int .u64 r.seq, .int .i64 r.kind, .string r.ten, .int .u64 r.lease, .int .u64 r.n, .int .u64 r.bits])] W (RetV W (.int .i64 (recE r.seq r.kind r.ten r.lease r.n r.bits)))) := fun W => rcheck_calls r.seq r.kind r.ten r.lease r.n r.bits W hrk.2.2.2.1 ht
  have HF : Hid (∀ W, Ext w W → Calls Tryd.prog 85 #[(.agg #[.int .u64 seq, .slice A xs.length c]), .string r.ten] W (RetV W (.int .i64 (findR (acs xs) r.ten)))) := fun W e => rfind_calls seq A c xs r.ten W (hb.ext e) (by omega)
  have HAC : Hid (∀ W, Ext w W → Calls Tryd.prog 38 #[(.agg #[.int .u64 seq, .slice A xs.length c]), .string r.ten] W (fun e w' => ∃ a L l C cc, e = .returned (.agg #[.string a.ten, .int .u64 a.cap, .int .u64 a.used, .int .u64 a.bits, .int .u64 a.per, .slice L a.ls.length l, .slice C a.cl.length cc]) ∧ chkA a r = chkA (accOf (acs xs) r.ten) r ∧ RdA w' a L C ∧ a.ok ∧ Ext W w')) := fun W e => by
    refine (raccount_calls seq A c xs r.ten W (hb.ext e) (by omega)).mono ?_
    rintro e' w' ⟨x, hx, hxa, h1, h2⟩
    refine ⟨x.a, x.AL, x.cL, x.AC, x.cC, h1, by rw [hxa], ?_, ?_, h2⟩
    · rcases hx with hx | rfl
      · exact ((hb.each x hx).ext (e.trans h2)).rd
      · exact ⟨RdE.nil, RdE.nil⟩
    · rcases hx with hx | rfl
      · exact hok x hx
      · exact acNone_ok ht
  have HCH : Hid (∀ W a L l C cc, RdA W a L C → a.ok → Calls Tryd.prog 86 #[.agg #[.string a.ten, .int .u64 a.cap, .int .u64 a.used, .int .u64 a.bits, .int .u64 a.per, .slice L a.ls.length l, .slice C a.cl.length cc], (.agg #[.int .u64 r.seq, .int .i64 r.kind, .string r.ten, .int .u64 r.lease, .int .u64 r.n, .int .u64 r.bits])] W (RetV W (.int .i64 (chkA a r)))) := fun W a L l C cc h1 h2 => rachk_calls a r L C l cc W h1 h2 hrk ht
  have HRS : Hid (recE r.seq r.kind r.ten r.lease r.n r.bits = 0 → r.seq ≠ 0) := rec_seq
  have HFN : Hid (findR (acs xs) r.ten < 0 ↔ thereB (acs xs) r.ten.data.toList = false) := findR_neg _ _
  have HV : Hid (chkL seq (acs xs) r = if recE r.seq r.kind r.ten r.lease r.n r.bits ≠ 0 then recE r.seq r.kind r.ten r.lease r.n r.bits
      else if r.seq ≠ (seq + 1) % 18446744073709551616 then 12 else if thereB (acs xs) r.ten.data.toList = false ∧ 8 ≤ xs.length then 15 else chkA (accOf (acs xs) r.ten) r) := by
    show _ = _
    unfold chkL
    rw [acs_len]
  have HSQ := Lib.hid hs
  clear hb hok hrk ht
  generalize chkL seq (acs xs) r = V at *
  generalize recE r.seq r.kind r.ten r.lease r.n r.bits = E at *
  generalize findR (acs xs) r.ten = p at *
  generalize thereB (acs xs) r.ten.data.toList = th at *
  generalize chkA (accOf (acs xs) r.ten) r = K at *
  unfold lgA rcA
  go_enter Tryd.func35, Tryd.ntmps35
  go_wp2_with (first
    | ((with_reducible show wpList _ _ _ ({ dst := some 2, op := Op.box 40 _, type := _, pos := _, after := _, guard := _ } :: _) _ _); refine bxA _ rfl 40 _ rfl _ rfl ?_; intro g1 w1 hg hs1 k1 e1; have X0 := Lib.hid k1; have E0 := Lib.hid e1; clear hg hs1 k1 e1)
    | ((with_reducible show wpList _ _ _ ({ dst := some 3, op := Op.box 28 _, type := _, pos := _, after := _, guard := _ } :: _) _ _); refine bxA _ rfl 28 _ rfl _ rfl ?_; intro g3 w3 hg hs1 k1 e1; have X3 := Lib.hid k1; have X1 := Lib.hid (X0.out.ext e1); have E1 := Lib.hid (E0.out.trans e1); obtain ⟨r0, r1, r2, r3, r4, r5⟩ := rc_cells k1; clear hg hs1 k1 e1 X0 E0))
  refine (HC.out _).mono ?_
  rintro e w4 ⟨rfl, e4⟩
  have E4 := Lib.hid (E1.out.trans e4)
  have X4 := Lib.hid (X1.out.ext e4)
  have Y4 := Lib.hid (X3.out.ext e4)
  clear e4 r0 r1 r2 r3 r4 r5 X1 X3 E1 HC
  obtain ⟨a0, a1⟩ := lg_cells X4.out
  obtain ⟨r0, r1, r2, r3, r4, r5⟩ := rc_cells Y4.out
  by_cases h0 : E = 0
  · subst h0
    rw [if_neg (by simp)] at HV
    have HR0 := Lib.hid (HRS.out rfl)
    by_cases hmx : seq = 18446744073709551615
    · have hv : V = 12 := by rw [HV.out, if_pos (by rw [hmx]; have := HR0.out; omega)]
      have q1 : ((seq : Int) == 18446744073709551615) = true := by rw [hmx]; rfl
      clear hmx hs
      go_wp2_with fail
      go_ret
      rw [hv]
      exact ⟨rfl, E4.out⟩
    have q1 : ((seq : Int) == 18446744073709551615) = false := by simp; omega
    have hM : (seq + 1) % 18446744073709551616 = seq + 1 := by omega
    rw [hM] at HV
    have u1 : IntKind.u64.wrap ((seq : Int) + 1) = (((seq + 1 : Nat)) : Int) := by rw [IntWalk.u64_in _ (by omega)]; omega
    clear hmx hM hs
    generalize seq + 1 = M at *
    by_cases hm : r.seq = M
    · rw [if_neg (by simpa using hm)] at HV
      have q2 : ((r.seq : Int) != (M : Int)) = false := by simp [hm]
      clear hm
      have RC : Hid (∀ W, Ext w4 W → (W.cell? ⟨g1, 0, none⟩ = some (.int .u64 seq) ∧ W.cell? ⟨g1, 1, none⟩ = some (.slice A xs.length c)) ∧ (W.cell? ⟨g3, 0, none⟩ = some (.int .u64 r.seq) ∧ W.cell? ⟨g3, 1, none⟩ = some (.int .i64 r.kind) ∧ W.cell? ⟨g3, 2, none⟩ = some (.string r.ten) ∧ W.cell? ⟨g3, 3, none⟩ = some (.int .u64 r.lease) ∧ W.cell? ⟨g3, 4, none⟩ = some (.int .u64 r.n) ∧ W.cell? ⟨g3, 5, none⟩ = some (.int .u64 r.bits))) := fun W e => ⟨lg_cells (X4.out.ext e), rc_cells (Y4.out.ext e)⟩
      by_cases hp : p < 0
      · have hth := HFN.out.1 hp
        by_cases h8 : 8 ≤ xs.length
        · rw [if_pos ⟨hth, h8⟩] at HV
          have q3 : decide (p < 0) = true := decide_eq_true hp
          have q4 : decide ((8 : Int) ≤ (xs.length : Int)) = true := decide_eq_true (by omega)
          clear hp hth h8
          go_wp2_with (first | (go_at_call 85; refine (HF.out _ E4.out).mono ?_; rintro e w5 ⟨rfl, e5⟩; have E5 := Lib.hid (E4.out.trans e5); obtain ⟨⟨b0, b1⟩, _⟩ := RC.out _ e5; clear e5 a0 a1 r0 r1 r2 r3 r4 r5))
          go_ret
          rw [HV.out]
          exact ⟨rfl, E5.out⟩
        · rw [if_neg (fun h => h8 h.2)] at HV
          have q3 : decide (p < 0) = true := decide_eq_true hp
          have q4 : decide ((8 : Int) ≤ (xs.length : Int)) = false := decide_eq_false (by omega)
          clear hp hth h8
          go_wp2_with (first | (go_at_call 85; refine (HF.out _ E4.out).mono ?_; rintro e w5 ⟨rfl, e5⟩; have T5 : Ext w4 w5 := e5; have E5 := Lib.hid (E4.out.trans e5); have TT5 := Lib.hid T5; obtain ⟨⟨b0, b1⟩, s0, s1, s2, s3, s4, s5⟩ := RC.out _ e5; clear e5 T5 a0 a1 r0 r1 r2 r3 r4 r5))
          (go_region_with (first | (go_at_call 38; refine (HAC.out _ (E5.out.trans (by first | exact (Ext.refl _).drew | assumption | exact Ext.refl _))).mono ?_; rintro e w6 ⟨a6, L6, l6, C6, c6, rfl, hk6, p6, ok6, e6⟩; have T6 : Ext w5 w6 := Ext.trans (by first | exact (Ext.refl _).drew | assumption | exact Ext.refl _) e6; have P6 := Lib.hid p6; have O6 := Lib.hid ok6; have K6 := Lib.hid hk6; clear b0 b1 s0 s1 s2 s3 s4 s5; obtain ⟨⟨b0, b1⟩, s0, s1, s2, s3, s4, s5⟩ := RC.out _ (TT5.out.trans T6); clear p6 ok6 hk6 e6) | (go_at_call 86; refine (HCH.out _ _ _ _ _ _ P6.out O6.out).mono ?_; rintro e w7 ⟨rfl, e7⟩; have T7 := Lib.hid (T6.trans e7); clear e7)); all_goals (go_wp2_with fail; go_ret; rw [HV.out, ← K6.out]; exact ⟨rfl, E5.out.trans T7.out⟩))
      · have hth : th = true := by
          cases h : th with
          | true => rfl
          | false => exact absurd (HFN.out.2 h) hp
        rw [if_neg (by rw [hth]; simp)] at HV
        have q3 : decide (p < 0) = false := decide_eq_false hp
        clear hp hth
        go_wp2_with (first | (go_at_call 85; refine (HF.out _ E4.out).mono ?_; rintro e w5 ⟨rfl, e5⟩; have T5 : Ext w4 w5 := e5; have E5 := Lib.hid (E4.out.trans e5); have TT5 := Lib.hid T5; obtain ⟨⟨b0, b1⟩, s0, s1, s2, s3, s4, s5⟩ := RC.out _ e5; clear e5 T5 a0 a1 r0 r1 r2 r3 r4 r5))
        (go_region_with (first | (go_at_call 38; refine (HAC.out _ (E5.out.trans (by first | exact (Ext.refl _).drew | assumption | exact Ext.refl _))).mono ?_; rintro e w6 ⟨a6, L6, l6, C6, c6, rfl, hk6, p6, ok6, e6⟩; have T6 : Ext w5 w6 := Ext.trans (by first | exact (Ext.refl _).drew | assumption | exact Ext.refl _) e6; have P6 := Lib.hid p6; have O6 := Lib.hid ok6; have K6 := Lib.hid hk6; clear b0 b1 s0 s1 s2 s3 s4 s5; obtain ⟨⟨b0, b1⟩, s0, s1, s2, s3, s4, s5⟩ := RC.out _ (TT5.out.trans T6); clear p6 ok6 hk6 e6) | (go_at_call 86; refine (HCH.out _ _ _ _ _ _ P6.out O6.out).mono ?_; rintro e w7 ⟨rfl, e7⟩; have T7 := Lib.hid (T6.trans e7); clear e7)); all_goals (go_wp2_with fail; go_ret; rw [HV.out, ← K6.out]; exact ⟨rfl, E5.out.trans T7.out⟩))
    · rw [if_pos hm] at HV
      have q2 : ((r.seq : Int) != (M : Int)) = true := by simp; omega
      clear hm
      go_wp2_with fail
      go_ret
      rw [HV.out]
      exact ⟨rfl, E4.out⟩
  · have q0 : (E != 0) = true := by simpa using h0
    rw [if_pos h0] at HV
    clear h0
    go_wp2_with fail
    go_ret
    rw [HV.out]
    exact ⟨rfl, E4.out⟩
end Go.Proofs.YtkbjnlbbfapgdaaDoor

namespace Go.Proofs.YtkbjnlbbfapgdaaDoor
open Go.RowKit

theorem rasame_self2 (a : Ac) (AL AC BL BC : Option Addr) (cL cC dL dC : Nat) (w : World) (ha : RdA w a AL AC) (hb : RdA w a BL BC) (h1 : a.ls.length ≤ 100000) (h2 : a.cl.length ≤ 100000) :
    Calls Tryd.prog 20 #[acA a AL cL AC cC, acA a BL dL BC dC] w (RetV w (.bool true)) := by
  have h := rasame_calls a a AL AC BL BC cL cC dL dC w ha hb h1 h2 h1 h2
  simpa only [decide_true] using h
set_option maxHeartbeats 16000000 in
theorem ledgerApplies_walk (seq : Nat) (A : Option Addr) (c : Nat) (xs : List Ax) (r : Rc) (tenant : ByteArray) (w : World) (hs : seq < 18446744073709551616) (hb : RdL w A xs) (hcl : xs.length ≤ c) (hcm : c ≤ 9223372036854775807) (hrk : r.ok) (hL : Laid w) :
    Calls Tryd.prog 8 #[(.agg #[.int .u64 seq, .slice A xs.length c]), rcA r, .string tenant] w (RetV w (.bool true)) := by
  have HL := Lib.hid hL
  have HLA : Hid (∀ W, Ext w W → Calls Tryd.prog 22 #[(.agg #[.int .u64 seq, .slice A xs.length c])] W (RetV W (.bool (largeL (acs xs))))) := fun W e => rlargeL_calls seq A c xs W (hb.ext e) (by omega)
  have HRI : Hid (∀ W, Ext w W → Calls Tryd.prog 32 #[(.agg #[.int .u64 seq, .slice A xs.length c])] W (RetV W (.bool (riseB (acs xs))))) := fun W e => rrise_calls seq A c xs W (hb.ext e) (by omega)
  have HAW : Hid (∀ W, Ext w W → Calls Tryd.prog 33 #[] W (RetV W (.bool true))) := fun W e => awake16 W (HL.out.ext e)
  unfold rcA
  by_cases h1 : largeL (acs xs) = true
  · rw [h1] at HLA
    clear h1 hb
    go_enter Tryd.func8, Tryd.ntmps8
    go_wp2_with (first | ((with_reducible show wpList _ _ _ ({ dst := some 3, op := Op.box 40 _, type := _, pos := _, after := _, guard := _ } :: _) _ _); refine bxA _ rfl 40 _ rfl _ rfl ?_; intro g1 w1 hg hs1 k1 e1; have X0 := Lib.hid k1; have E0 := Lib.hid e1; clear hg hs1 k1 e1) | ((with_reducible show wpList _ _ _ ({ dst := some 4, op := Op.box 28 _, type := _, pos := _, after := _, guard := _ } :: _) _ _); refine bxA _ rfl 28 _ rfl _ rfl ?_; intro g3 w3 hg hs1 k1 e1; have Y3 := Lib.hid k1; have X3 := Lib.hid (X0.out.ext e1); have E3 := Lib.hid (E0.out.trans e1); obtain ⟨a0, a1⟩ := lg_cells X3.out; obtain ⟨r0, r1, r2, r3, r4, r5⟩ := rc_cells k1; clear hg hs1 k1 e1 X0 E0) | (go_at_call 22; refine (HLA.out _ E3.out).mono ?_; rintro e w4 ⟨rfl, e4⟩; have X4 := Lib.hid (X3.out.ext e4); have Y4 := Lib.hid (Y3.out.ext e4); have E4 := Lib.hid (E3.out.trans e4); clear e4 a0 a1 r0 r1 r2 r3 r4 r5; obtain ⟨a0, a1⟩ := lg_cells X4.out; obtain ⟨r0, r1, r2, r3, r4, r5⟩ := rc_cells Y4.out) | (go_at_call 33; refine (HAW.out _ E4.out).mono ?_; rintro e w9 ⟨rfl, e9⟩; have E9 := Lib.hid (Ext.trans E4.out e9); clear e9))
    go_ret
    exact ⟨rfl, E9.out⟩
  by_cases h2 : 100 < r.ten.size
  · rw [(Bool.not_eq_true _).mp h1] at HLA
    have q1 : decide ((100 : Int) < (r.ten.size : Int)) = true := decide_eq_true (by omega)
    clear h1 hb
    go_enter Tryd.func8, Tryd.ntmps8
    go_wp2_with (first | ((with_reducible show wpList _ _ _ ({ dst := some 3, op := Op.box 40 _, type := _, pos := _, after := _, guard := _ } :: _) _ _); refine bxA _ rfl 40 _ rfl _ rfl ?_; intro g1 w1 hg hs1 k1 e1; have X0 := Lib.hid k1; have E0 := Lib.hid e1; clear hg hs1 k1 e1) | ((with_reducible show wpList _ _ _ ({ dst := some 4, op := Op.box 28 _, type := _, pos := _, after := _, guard := _ } :: _) _ _); refine bxA _ rfl 28 _ rfl _ rfl ?_; intro g3 w3 hg hs1 k1 e1; have Y3 := Lib.hid k1; have X3 := Lib.hid (X0.out.ext e1); have E3 := Lib.hid (E0.out.trans e1); obtain ⟨a0, a1⟩ := lg_cells X3.out; obtain ⟨r0, r1, r2, r3, r4, r5⟩ := rc_cells k1; clear hg hs1 k1 e1 X0 E0) | (go_at_call 22; refine (HLA.out _ E3.out).mono ?_; rintro e w4 ⟨rfl, e4⟩; have X4 := Lib.hid (X3.out.ext e4); have Y4 := Lib.hid (Y3.out.ext e4); have E4 := Lib.hid (E3.out.trans e4); clear e4 a0 a1 r0 r1 r2 r3 r4 r5; obtain ⟨a0, a1⟩ := lg_cells X4.out; obtain ⟨r0, r1, r2, r3, r4, r5⟩ := rc_cells Y4.out) | (go_at_call 33; refine (HAW.out _ E4.out).mono ?_; rintro e w9 ⟨rfl, e9⟩; have E9 := Lib.hid (Ext.trans E4.out e9); clear e9))
    go_ret
    exact ⟨rfl, E9.out⟩
  by_cases h3 : 100 < tenant.size
  · rw [(Bool.not_eq_true _).mp h1] at HLA
    have q1 : decide ((100 : Int) < (r.ten.size : Int)) = false := decide_eq_false (by omega)
    have q2 : decide ((100 : Int) < (tenant.size : Int)) = true := decide_eq_true (by omega)
    clear h1 hb
    go_enter Tryd.func8, Tryd.ntmps8
    go_wp2_with (first | ((with_reducible show wpList _ _ _ ({ dst := some 3, op := Op.box 40 _, type := _, pos := _, after := _, guard := _ } :: _) _ _); refine bxA _ rfl 40 _ rfl _ rfl ?_; intro g1 w1 hg hs1 k1 e1; have X0 := Lib.hid k1; have E0 := Lib.hid e1; clear hg hs1 k1 e1) | ((with_reducible show wpList _ _ _ ({ dst := some 4, op := Op.box 28 _, type := _, pos := _, after := _, guard := _ } :: _) _ _); refine bxA _ rfl 28 _ rfl _ rfl ?_; intro g3 w3 hg hs1 k1 e1; have Y3 := Lib.hid k1; have X3 := Lib.hid (X0.out.ext e1); have E3 := Lib.hid (E0.out.trans e1); obtain ⟨a0, a1⟩ := lg_cells X3.out; obtain ⟨r0, r1, r2, r3, r4, r5⟩ := rc_cells k1; clear hg hs1 k1 e1 X0 E0) | (go_at_call 22; refine (HLA.out _ E3.out).mono ?_; rintro e w4 ⟨rfl, e4⟩; have X4 := Lib.hid (X3.out.ext e4); have Y4 := Lib.hid (Y3.out.ext e4); have E4 := Lib.hid (E3.out.trans e4); clear e4 a0 a1 r0 r1 r2 r3 r4 r5; obtain ⟨a0, a1⟩ := lg_cells X4.out; obtain ⟨r0, r1, r2, r3, r4, r5⟩ := rc_cells Y4.out) | (go_at_call 33; refine (HAW.out _ E4.out).mono ?_; rintro e w9 ⟨rfl, e9⟩; have E9 := Lib.hid (Ext.trans E4.out e9); clear e9))
    go_ret
    exact ⟨rfl, E9.out⟩
  by_cases h4f : riseB (acs xs) = false
  · rw [(Bool.not_eq_true _).mp h1] at HLA
    rw [h4f] at HRI
    have q1 : decide ((100 : Int) < (r.ten.size : Int)) = false := decide_eq_false (by omega)
    have q2 : decide ((100 : Int) < (tenant.size : Int)) = false := decide_eq_false (by omega)
    clear h1 h4f hb
    go_enter Tryd.func8, Tryd.ntmps8
    go_wp2_with (first | ((with_reducible show wpList _ _ _ ({ dst := some 3, op := Op.box 40 _, type := _, pos := _, after := _, guard := _ } :: _) _ _); refine bxA _ rfl 40 _ rfl _ rfl ?_; intro g1 w1 hg hs1 k1 e1; have X0 := Lib.hid k1; have E0 := Lib.hid e1; clear hg hs1 k1 e1) | ((with_reducible show wpList _ _ _ ({ dst := some 4, op := Op.box 28 _, type := _, pos := _, after := _, guard := _ } :: _) _ _); refine bxA _ rfl 28 _ rfl _ rfl ?_; intro g3 w3 hg hs1 k1 e1; have Y3 := Lib.hid k1; have X3 := Lib.hid (X0.out.ext e1); have E3 := Lib.hid (E0.out.trans e1); obtain ⟨a0, a1⟩ := lg_cells X3.out; obtain ⟨r0, r1, r2, r3, r4, r5⟩ := rc_cells k1; clear hg hs1 k1 e1 X0 E0) | (go_at_call 22; refine (HLA.out _ E3.out).mono ?_; rintro e w4 ⟨rfl, e4⟩; have X4 := Lib.hid (X3.out.ext e4); have Y4 := Lib.hid (Y3.out.ext e4); have E4 := Lib.hid (E3.out.trans e4); clear e4 a0 a1 r0 r1 r2 r3 r4 r5; obtain ⟨a0, a1⟩ := lg_cells X4.out; obtain ⟨r0, r1, r2, r3, r4, r5⟩ := rc_cells Y4.out) | (go_at_call 32; refine (HRI.out _ E4.out).mono ?_; rintro e w5 ⟨rfl, e5⟩; have X5 := Lib.hid (X4.out.ext e5); have Y5 := Lib.hid (Y4.out.ext e5); have E5 := Lib.hid (E4.out.trans e5); clear e5 a0 a1 r0 r1 r2 r3 r4 r5; obtain ⟨a0, a1⟩ := lg_cells X5.out; obtain ⟨r0, r1, r2, r3, r4, r5⟩ := rc_cells Y5.out) | (go_at_call 33; refine (HAW.out _ E5.out).mono ?_; rintro e w9 ⟨rfl, e9⟩; have E9 := Lib.hid (Ext.trans E5.out e9); clear e9))
    go_ret
    exact ⟨rfl, E9.out⟩
  have h4 : riseB (acs xs) = true := by simpa using h4f
  clear h4f
  have q1 : decide ((100 : Int) < (r.ten.size : Int)) = false := decide_eq_false (by omega)
  have q2 : decide ((100 : Int) < (tenant.size : Int)) = false := decide_eq_false (by omega)
  obtain ⟨hn12, hoks⟩ := largeL_ok ((Bool.not_eq_true _).mp h1) hb
  have hri := (riseB_iff _).1 h4
  rw [(Bool.not_eq_true _).mp h1] at HLA
  rw [h4] at HRI
  have hok : ∀ x ∈ xs, x.a.ok := fun x hx => (hoks x hx).1
  have hlens : ∀ x ∈ xs, x.a.ls.length ≤ 90000 ∧ x.a.cl.length ≤ 90000 := fun x hx => by have := hoks x hx; omega
  have HCK : Hid (∀ W, Ext w W → Calls Tryd.prog 35 #[(.agg #[.int .u64 seq, .slice A xs.length c]), (.agg #[.int .u64 r.seq, .int .i64 r.kind, .string r.ten, .int .u64 r.lease, .int .u64 r.n, .int .u64 r.bits])] W (RetV W (.int .i64 (chkL seq (acs xs) r)))) := fun W e => rlchk_calls seq A c xs r W (hb.ext e) hok (by omega) hrk (by omega) hs
  have HLC : Hid (∀ W, Ext w W → Calls Tryd.prog 36 #[(.agg #[.int .u64 seq, .slice A xs.length c]), (.agg #[.int .u64 r.seq, .int .i64 r.kind, .string r.ten, .int .u64 r.lease, .int .u64 r.n, .int .u64 r.bits])] W (RetV W (.int .i64 (chkL seq (acs xs) r)))) := fun W e => lgcheck_calls seq A c xs r W (hb.ext e) hok (by omega) hri hrk (by omega) hs
  obtain ⟨ac, hac⟩ : ∃ ac, ac = accOf (acs xs) tenant := ⟨_, rfl⟩
  have HFI : Hid (∀ W, Ext w W → Calls Tryd.prog 37 #[(.agg #[.int .u64 seq, .slice A xs.length c]), .string tenant] W (fun e w' => ∃ L l C c, e = .returned ((.agg #[.string ac.ten, .int .u64 ac.cap, .int .u64 ac.used, .int .u64 ac.bits, .int .u64 ac.per, .slice L ac.ls.length l, .slice C ac.cl.length c])) ∧ RdA w' ac L C ∧ Ext W w')) := fun W e => by
    have h := lgfind_calls seq A c xs tenant W (hb.ext e) hok (by omega) hri
    rw [← hac] at h
    exact h.mono fun e' w' ⟨L, l, C, c, h1, h2, h3⟩ => ⟨L, l, C, c, h1, h2.rd, h3⟩
  have HAC : Hid (∀ W, Ext w W → Calls Tryd.prog 38 #[(.agg #[.int .u64 seq, .slice A xs.length c]), .string tenant] W (fun e w' => ∃ L l C c, e = .returned ((.agg #[.string ac.ten, .int .u64 ac.cap, .int .u64 ac.used, .int .u64 ac.bits, .int .u64 ac.per, .slice L ac.ls.length l, .slice C ac.cl.length c])) ∧ RdA w' ac L C ∧ Ext W w')) := fun W e => by
    refine (raccount_calls seq A c xs tenant W (hb.ext e) (by omega)).mono ?_
    rintro e' w' ⟨x, hm, hxa, he, hE⟩
    rw [← hac] at hxa
    have hin : x.in_ w' := by
      rcases hm with hm | rfl
      · exact (hb.each x hm).ext (e.trans hE)
      · exact axNone_in (by omega)
    have h2 := hin.rd
    refine ⟨x.AL, x.cL, x.AC, x.cC, ?_, ?_, hE⟩
    · rw [he, ← hxa]; rfl
    · rw [← hxa]; exact h2
  have hao : ac.ok := by
    rw [hac]
    rcases acc_mem (acs xs) tenant with h | h
    · obtain ⟨x, hx, he⟩ := List.mem_map.1 h
      rw [← he]; exact hok x hx
    · rw [h]; exact acNone_ok (by omega)
  have HSM : Hid (∀ W L l C c M m D d, RdA W ac L C → RdA W ac M D → Calls Tryd.prog 20 #[(.agg #[.string ac.ten, .int .u64 ac.cap, .int .u64 ac.used, .int .u64 ac.bits, .int .u64 ac.per, .slice L ac.ls.length l, .slice C ac.cl.length c]), (.agg #[.string ac.ten, .int .u64 ac.cap, .int .u64 ac.used, .int .u64 ac.bits, .int .u64 ac.per, .slice M ac.ls.length m, .slice D ac.cl.length d])] W (RetV W (.bool true))) := fun W L l C c M m D d h1 h2 =>
    rasame_self2 ac L C M D l c m d W h1 h2 hao.2.2.2.2.2.2.2.1 hao.2.2.2.2.2.2.2.2
  clear hac hao
  by_cases hc : chkL seq (acs xs) r = 0
  · have HAP : Hid (∀ W, Ext w W → Calls Tryd.prog 34 #[(.agg #[.int .u64 seq, .slice A xs.length c]), (.agg #[.int .u64 r.seq, .int .i64 r.kind, .string r.ten, .int .u64 r.lease, .int .u64 r.n, .int .u64 r.bits])] W (fun e w' => ∃ A8 c8, ∃ zs : List Ax, e = .returned (.tuple #[(.agg #[.int .u64 r.seq, .slice A8 zs.length c8]), .int .i64 0]) ∧ acs zs = comL (acs xs) r ∧ OwnL w' W.heap.size A8 c8 zs ∧ Ext W w')) := fun W e =>
      lgapply_ok seq A c xs r W (hb.ext e) hok (by omega) hri hrk (by omega) hs hlens (HL.out.ext e) hc
    have HRA : Hid (∀ W, Ext w W → Calls Tryd.prog 39 #[(.agg #[.int .u64 seq, .slice A xs.length c]), (.agg #[.int .u64 r.seq, .int .i64 r.kind, .string r.ten, .int .u64 r.lease, .int .u64 r.n, .int .u64 r.bits])] W (fun e w' => ∃ A9 c9, ∃ ys : List Ax, e = .returned ((.agg #[.int .u64 r.seq, .slice A9 ys.length c9])) ∧ acs ys = comL (acs xs) r ∧ RdL w' A9 ys ∧ (∀ y ∈ ys, y.a.ok) ∧ Ext W w')) := fun W e =>
      rlapply_calls seq A c xs r W (hb.ext e) hok (by omega) hri hrk (by omega) (fun x hx => by have := hlens x hx; omega) hc
    have HSL : Hid (∀ W A8 c8 (zs : List Ax) A9 c9 (ys : List Ax), RdL W A8 zs → RdL W A9 ys → (∀ x ∈ zs, x.a.ok) → (∀ x ∈ ys, x.a.ok) → acs zs = comL (acs xs) r → acs ys = comL (acs xs) r → Calls Tryd.prog 29 #[(.agg #[.int .u64 r.seq, .slice A8 zs.length c8]), (.agg #[.int .u64 r.seq, .slice A9 ys.length c9])] W (RetV W (.bool true))) := fun W A8 c8 zs A9 c9 ys h1 h2 h3 h4 h5 h6 => by
      have hzl : zs.length ≤ 100 := by
        have h7 := congrArg List.length h5
        have h8 := com_len1 (acs xs) r
        rw [acs_len] at h7 h8
        omega
      have h := rlsame_calls r.seq r.seq A8 A9 c8 c9 zs ys W h1 h2 h3 h4 (by omega)
      rw [decide_eq_true (show r.seq = r.seq ∧ acs zs = acs ys from ⟨rfl, h5.trans h6.symm⟩)] at h
      exact h
    rw [hc] at HCK HLC
    clear hb h1 h4 hc hok hlens hoks hri
    go_enter Tryd.func8, Tryd.ntmps8
    go_upto_region 5 with (first | ((with_reducible show wpList _ _ _ ({ dst := some 3, op := Op.box 40 _, type := _, pos := _, after := _, guard := _ } :: _) _ _); refine bxA _ rfl 40 _ rfl _ rfl ?_; intro g1 w1 hg hs1 k1 e1; have X0 := Lib.hid k1; have E0 := Lib.hid e1; clear hg hs1 k1 e1) | ((with_reducible show wpList _ _ _ ({ dst := some 4, op := Op.box 28 _, type := _, pos := _, after := _, guard := _ } :: _) _ _); refine bxA _ rfl 28 _ rfl _ rfl ?_; intro g3 w3 hg hs1 k1 e1; have Y3 := Lib.hid k1; have X3 := Lib.hid (X0.out.ext e1); have E3 := Lib.hid (E0.out.trans e1); obtain ⟨a0, a1⟩ := lg_cells X3.out; obtain ⟨r0, r1, r2, r3, r4, r5⟩ := rc_cells k1; clear hg hs1 k1 e1 X0 E0) | (go_at_call 22; refine (HLA.out _ E3.out).mono ?_; rintro e w4 ⟨rfl, e4⟩; have X4 := Lib.hid (X3.out.ext e4); have Y4 := Lib.hid (Y3.out.ext e4); have E4 := Lib.hid (E3.out.trans e4); clear e4 a0 a1 r0 r1 r2 r3 r4 r5; obtain ⟨a0, a1⟩ := lg_cells X4.out; obtain ⟨r0, r1, r2, r3, r4, r5⟩ := rc_cells Y4.out) | (go_at_call 32; refine (HRI.out _ E4.out).mono ?_; rintro e w5 ⟨rfl, e5⟩; have X5 := Lib.hid (X4.out.ext e5); have Y5 := Lib.hid (Y4.out.ext e5); have E5 := Lib.hid (E4.out.trans e5); clear e5 a0 a1 r0 r1 r2 r3 r4 r5; obtain ⟨a0, a1⟩ := lg_cells X5.out; obtain ⟨r0, r1, r2, r3, r4, r5⟩ := rc_cells Y5.out) | (go_at_call 34; refine (HAP.out _ E5.out).mono ?_; rintro e w6 ⟨A8, c8, zs, rfl, hz, o6, e6⟩; have HZ := Lib.hid hz; have O6 := Lib.hid o6; have X6 := Lib.hid (X5.out.ext e6); have Y6 := Lib.hid (Y5.out.ext e6); have E6 := Lib.hid (E5.out.trans e6); clear e6 hz o6 a0 a1 r0 r1 r2 r3 r4 r5) | ((with_reducible show wpList _ _ _ ({ dst := some 7, op := Op.alloc 40, type := _, pos := _, after := _, guard := _ } :: _) _ _); refine alA _ rfl 40 rfl _ _ zero_lg ?_; intro g7 w7 hg hs1 k1 e1; have Z7 := Lib.hid k1; have O7 := Lib.hid (O6.out.ext e1); have F7 := Lib.hid (O6.out.off (g := g7) (.inr (Nat.le_of_eq hg))); have X7 := Lib.hid (X6.out.ext e1); have Y7 := Lib.hid (Y6.out.ext e1); have E7 := Lib.hid (E6.out.trans e1); have G7 := Lib.hid (show w.heap.size ≤ g7 ∧ g1 < g7 ∧ g3 < g7 from ⟨by have := E6.out.size; omega, by have := X6.out.lt; omega, by have := Y6.out.lt; omega⟩); clear hg hs1 k1 e1) | ((with_reducible show wpList _ _ _ ({ dst := none, op := Op.store 40 _ _, type := _, pos := _, after := _, guard := _ } :: _) _ _); refine stA _ rfl 40 40 _ _ rfl g7 _ #[.int .u64 r.seq, .slice A8 zs.length c8] rfl rfl Z7.out size_lg rfl (lg_one _ _ _ _) ?_; intro w8 hs8 k8 g8; have Z8 := Lib.hid k8; have O8 := Lib.hid (O7.out.keep g8 F7.out); have X8 := Lib.hid (X7.out.grown g8 (by have := G7.out.2; intro hh; injection hh; omega)); have Y8 := Lib.hid (Y7.out.grown g8 (by have := G7.out.2; intro hh; injection hh; omega)); have E8 := Lib.hid (E7.out.grown g8 (fun q hq => by injection hq with hq; have := G7.out; omega)); obtain ⟨x0, x1⟩ := lg_cells X8.out; obtain ⟨r0, r1, r2, r3, r4, r5⟩ := rc_cells Y8.out; clear hs8 k8 g8) | (go_at_call 35; refine (HCK.out _ E8.out).mono ?_; rintro e w9 ⟨rfl, e9⟩; have X9 := Lib.hid (X8.out.ext e9); have Y9 := Lib.hid (Y8.out.ext e9); have Z9 := Lib.hid (Z8.out.ext e9); have O9 := Lib.hid (O8.out.ext e9); have E9 := Lib.hid (E8.out.trans e9); clear e9 x0 x1 r0 r1 r2 r3 r4 r5))
    have KS : Hid (∀ W, Ext w9 W → (Ext w9 W ∧ (W.cell? ⟨g1, 0, none⟩ = some (.int .u64 seq) ∧ W.cell? ⟨g1, 1, none⟩ = some (.slice A xs.length c)) ∧ (W.cell? ⟨g3, 0, none⟩ = some (.int .u64 r.seq) ∧ W.cell? ⟨g3, 1, none⟩ = some (.int .i64 r.kind) ∧ W.cell? ⟨g3, 2, none⟩ = some (.string r.ten) ∧ W.cell? ⟨g3, 3, none⟩ = some (.int .u64 r.lease) ∧ W.cell? ⟨g3, 4, none⟩ = some (.int .u64 r.n) ∧ W.cell? ⟨g3, 5, none⟩ = some (.int .u64 r.bits)))) := fun W e => ⟨e, lg_cells (X9.out.ext e), rc_cells (Y9.out.ext e)⟩
    go_region_held3 (fun W => (Ext w9 W ∧ (W.cell? ⟨g1, 0, none⟩ = some (.int .u64 seq) ∧ W.cell? ⟨g1, 1, none⟩ = some (.slice A xs.length c)) ∧ (W.cell? ⟨g3, 0, none⟩ = some (.int .u64 r.seq) ∧ W.cell? ⟨g3, 1, none⟩ = some (.int .i64 r.kind) ∧ W.cell? ⟨g3, 2, none⟩ = some (.string r.ten) ∧ W.cell? ⟨g3, 3, none⟩ = some (.int .u64 r.lease) ∧ W.cell? ⟨g3, 4, none⟩ = some (.int .u64 r.n) ∧ W.cell? ⟨g3, 5, none⟩ = some (.int .u64 r.bits)))) (first | with_reducible exact KS.out _ (Ext.refl _).drew | with_reducible exact KS.out _ (by with_reducible assumption)) (first | (go_at_call 36; refine (HLC.out _ (E9.out.trans (by first | with_reducible assumption | with_reducible exact (Ext.refl _).drew | with_reducible exact Ext.refl _))).mono ?_; rintro e w10 ⟨rfl, e10⟩; have T10 : Ext w9 w10 := Ext.trans (by first | with_reducible assumption | with_reducible exact (Ext.refl _).drew | with_reducible exact Ext.refl _) e10; clear e10) | (go_at_call 37; refine (HFI.out _ (E9.out.trans (by first | with_reducible assumption | with_reducible exact (Ext.refl _).drew | with_reducible exact Ext.refl _))).mono ?_; rintro e w10 ⟨L1, l1, C1, c1, rfl, o10, e10⟩; have T11 : Ext w9 w10 := Ext.trans (by first | with_reducible assumption | with_reducible exact (Ext.refl _).drew | with_reducible exact Ext.refl _) e10; have P1 := Lib.hid o10; first | (have P2 := Lib.hid (P2.out.ext e10)) | skip; clear o10 e10) | (go_at_call 38; refine (HAC.out _ (E9.out.trans (by first | with_reducible assumption | with_reducible exact (Ext.refl _).drew | with_reducible exact Ext.refl _))).mono ?_; rintro e w11 ⟨L2, l2, C2, c2, rfl, o11, e11⟩; have T12 : Ext w9 w11 := Ext.trans (by first | with_reducible assumption | with_reducible exact (Ext.refl _).drew | with_reducible exact Ext.refl _) e11; have P2 := Lib.hid o11; first | (have P1 := Lib.hid (P1.out.ext e11)) | skip; clear o11 e11) | (go_at_call 20; refine (HSM.out _ _ _ _ _ _ _ _ _ P1.out P2.out).mono ?_; rintro e w12 ⟨rfl, e12⟩; have T13 : Ext w9 w12 := Ext.trans (by first | with_reducible assumption | with_reducible exact (Ext.refl _).drew | with_reducible exact Ext.refl _) e12; clear e12))
    all_goals
      obtain ⟨w12, hw⟩ : ∃ v, v = w12 := ⟨_, rfl⟩
      subst hw
      have X12 := Lib.hid (X9.out.ext T13)
      have Y12 := Lib.hid (Y9.out.ext T13)
      have Z12 := Lib.hid (Z9.out.ext T13)
      have O12 := Lib.hid (O9.out.ext T13)
      have E12 := Lib.hid (E9.out.trans T13)
      clear KS
      go_wp2_with fail
      have KT : Hid (∀ W, Ext w12 W → (Ext w12 W ∧ (W.cell? ⟨g1, 0, none⟩ = some (.int .u64 seq) ∧ W.cell? ⟨g1, 1, none⟩ = some (.slice A xs.length c)) ∧ (W.cell? ⟨g7, 0, none⟩ = some (.int .u64 r.seq) ∧ W.cell? ⟨g7, 1, none⟩ = some (.slice A8 zs.length c8)) ∧ (W.cell? ⟨g3, 0, none⟩ = some (.int .u64 r.seq) ∧ W.cell? ⟨g3, 1, none⟩ = some (.int .i64 r.kind) ∧ W.cell? ⟨g3, 2, none⟩ = some (.string r.ten) ∧ W.cell? ⟨g3, 3, none⟩ = some (.int .u64 r.lease) ∧ W.cell? ⟨g3, 4, none⟩ = some (.int .u64 r.n) ∧ W.cell? ⟨g3, 5, none⟩ = some (.int .u64 r.bits)))) := fun W e => ⟨e, lg_cells (X12.out.ext e), lg_cells (Z12.out.ext e), rc_cells (Y12.out.ext e)⟩
      go_region_held3 (fun W => (Ext w12 W ∧ (W.cell? ⟨g1, 0, none⟩ = some (.int .u64 seq) ∧ W.cell? ⟨g1, 1, none⟩ = some (.slice A xs.length c)) ∧ (W.cell? ⟨g7, 0, none⟩ = some (.int .u64 r.seq) ∧ W.cell? ⟨g7, 1, none⟩ = some (.slice A8 zs.length c8)) ∧ (W.cell? ⟨g3, 0, none⟩ = some (.int .u64 r.seq) ∧ W.cell? ⟨g3, 1, none⟩ = some (.int .i64 r.kind) ∧ W.cell? ⟨g3, 2, none⟩ = some (.string r.ten) ∧ W.cell? ⟨g3, 3, none⟩ = some (.int .u64 r.lease) ∧ W.cell? ⟨g3, 4, none⟩ = some (.int .u64 r.n) ∧ W.cell? ⟨g3, 5, none⟩ = some (.int .u64 r.bits)))) (first | with_reducible exact KT.out _ (Ext.refl _).drew | with_reducible exact KT.out _ (by with_reducible assumption)) (first | (go_at_call 39; refine (HRA.out _ (E12.out.trans (by first | with_reducible assumption | with_reducible exact (Ext.refl _).drew | with_reducible exact Ext.refl _))).mono ?_; rintro e w13 ⟨A9, c9, ys, rfl, hy, o13, p13, e13⟩; have T14 : Ext w12 w13 := Ext.trans (by first | with_reducible assumption | with_reducible exact (Ext.refl _).drew | with_reducible exact Ext.refl _) e13; have O13 := Lib.hid o13; have P13 := Lib.hid p13; have HY := Lib.hid hy; clear hy o13 p13 e13) | (go_at_call 29; refine (HSL.out _ A8 c8 zs A9 c9 ys (O12.out.rdl.ext T14) O13.out (fun x hx => (O12.out.2 x hx).2.1) P13.out HZ.out HY.out).mono ?_; rintro e w14 ⟨rfl, e14⟩; have T15 : Ext w12 w14 := Ext.trans (by first | with_reducible assumption | with_reducible exact (Ext.refl _).drew | with_reducible exact Ext.refl _) e14; clear e14) | (go_at_call 33; refine (HAW.out _ (E12.out.trans (by first | with_reducible assumption | with_reducible exact (Ext.refl _).drew | with_reducible exact Ext.refl _))).mono ?_; rintro e w15 ⟨rfl, e15⟩; have T16 : Ext w12 w15 := Ext.trans (by first | with_reducible assumption | with_reducible exact (Ext.refl _).drew | with_reducible exact Ext.refl _) e15; clear e15))
      go_wp2_with fail
      go_ret
      exact ⟨rfl, E12.out.trans T16⟩
  · have HAP : Hid (∀ W, Ext w W → Calls Tryd.prog 34 #[(.agg #[.int .u64 seq, .slice A xs.length c]), (.agg #[.int .u64 r.seq, .int .i64 r.kind, .string r.ten, .int .u64 r.lease, .int .u64 r.n, .int .u64 r.bits])] W (fun e w' => ∃ A8 c8, ∃ zs : List Ax, e = .returned (.tuple #[(.agg #[.int .u64 0, .slice A8 zs.length c8]), .int .i64 (chkL seq (acs xs) r)]) ∧ acs zs = [] ∧ OwnL w' W.heap.size A8 c8 zs ∧ Ext W w')) := fun W e =>
      lgapply_err seq A c xs r W (hb.ext e) hok (by omega) hri hrk (by omega) hs hlens (HL.out.ext e) hc
    have HSL : Hid (∀ W A8 c8 (zs : List Ax), RdL W A8 zs → (∀ x ∈ zs, x.a.ok) → acs zs = [] → Calls Tryd.prog 29 #[(.agg #[.int .u64 0, .slice A8 zs.length c8]), (.agg #[.int .u64 0, .slice none 0 0])] W (RetV W (.bool true))) := fun W A8 c8 zs h1 h3 h5 => by
      have hz : zs = [] := by simpa using h5
      subst hz
      have h := rlsame_calls 0 0 A8 none c8 0 [] [] W h1 ⟨RdE.nil, by simp⟩ h3 (by simp) (by simp)
      rw [decide_eq_true (show (0 : Nat) = 0 ∧ acs ([] : List Ax) = acs [] from ⟨rfl, rfl⟩)] at h
      exact h
    have q4 : (chkL seq (acs xs) r != 0) = true := by simpa using hc
    clear hb h1 h4 hc hok hlens hoks hri
    generalize chkL seq (acs xs) r = V at *
    go_enter Tryd.func8, Tryd.ntmps8
    go_upto_region 5 with (first | ((with_reducible show wpList _ _ _ ({ dst := some 3, op := Op.box 40 _, type := _, pos := _, after := _, guard := _ } :: _) _ _); refine bxA _ rfl 40 _ rfl _ rfl ?_; intro g1 w1 hg hs1 k1 e1; have X0 := Lib.hid k1; have E0 := Lib.hid e1; clear hg hs1 k1 e1) | ((with_reducible show wpList _ _ _ ({ dst := some 4, op := Op.box 28 _, type := _, pos := _, after := _, guard := _ } :: _) _ _); refine bxA _ rfl 28 _ rfl _ rfl ?_; intro g3 w3 hg hs1 k1 e1; have Y3 := Lib.hid k1; have X3 := Lib.hid (X0.out.ext e1); have E3 := Lib.hid (E0.out.trans e1); obtain ⟨a0, a1⟩ := lg_cells X3.out; obtain ⟨r0, r1, r2, r3, r4, r5⟩ := rc_cells k1; clear hg hs1 k1 e1 X0 E0) | (go_at_call 22; refine (HLA.out _ E3.out).mono ?_; rintro e w4 ⟨rfl, e4⟩; have X4 := Lib.hid (X3.out.ext e4); have Y4 := Lib.hid (Y3.out.ext e4); have E4 := Lib.hid (E3.out.trans e4); clear e4 a0 a1 r0 r1 r2 r3 r4 r5; obtain ⟨a0, a1⟩ := lg_cells X4.out; obtain ⟨r0, r1, r2, r3, r4, r5⟩ := rc_cells Y4.out) | (go_at_call 32; refine (HRI.out _ E4.out).mono ?_; rintro e w5 ⟨rfl, e5⟩; have X5 := Lib.hid (X4.out.ext e5); have Y5 := Lib.hid (Y4.out.ext e5); have E5 := Lib.hid (E4.out.trans e5); clear e5 a0 a1 r0 r1 r2 r3 r4 r5; obtain ⟨a0, a1⟩ := lg_cells X5.out; obtain ⟨r0, r1, r2, r3, r4, r5⟩ := rc_cells Y5.out) | (go_at_call 34; refine (HAP.out _ E5.out).mono ?_; rintro e w6 ⟨A8, c8, zs, rfl, hz, o6, e6⟩; have HZ := Lib.hid hz; have O6 := Lib.hid o6; have X6 := Lib.hid (X5.out.ext e6); have Y6 := Lib.hid (Y5.out.ext e6); have E6 := Lib.hid (E5.out.trans e6); clear e6 hz o6 a0 a1 r0 r1 r2 r3 r4 r5) | ((with_reducible show wpList _ _ _ ({ dst := some 7, op := Op.alloc 40, type := _, pos := _, after := _, guard := _ } :: _) _ _); refine alA _ rfl 40 rfl _ _ zero_lg ?_; intro g7 w7 hg hs1 k1 e1; have Z7 := Lib.hid k1; have O7 := Lib.hid (O6.out.ext e1); have F7 := Lib.hid (O6.out.off (g := g7) (.inr (Nat.le_of_eq hg))); have X7 := Lib.hid (X6.out.ext e1); have Y7 := Lib.hid (Y6.out.ext e1); have E7 := Lib.hid (E6.out.trans e1); have G7 := Lib.hid (show w.heap.size ≤ g7 ∧ g1 < g7 ∧ g3 < g7 from ⟨by have := E6.out.size; omega, by have := X6.out.lt; omega, by have := Y6.out.lt; omega⟩); clear hg hs1 k1 e1) | ((with_reducible show wpList _ _ _ ({ dst := none, op := Op.store 40 _ _, type := _, pos := _, after := _, guard := _ } :: _) _ _); refine stA _ rfl 40 40 _ _ rfl g7 _ #[.int .u64 0, .slice A8 zs.length c8] rfl rfl Z7.out size_lg rfl (lg_one _ _ _ _) ?_; intro w8 hs8 k8 g8; have Z8 := Lib.hid k8; have O8 := Lib.hid (O7.out.keep g8 F7.out); have X8 := Lib.hid (X7.out.grown g8 (by have := G7.out.2; intro hh; injection hh; omega)); have Y8 := Lib.hid (Y7.out.grown g8 (by have := G7.out.2; intro hh; injection hh; omega)); have E8 := Lib.hid (E7.out.grown g8 (fun q hq => by injection hq with hq; have := G7.out; omega)); obtain ⟨x0, x1⟩ := lg_cells X8.out; obtain ⟨r0, r1, r2, r3, r4, r5⟩ := rc_cells Y8.out; clear hs8 k8 g8) | (go_at_call 35; refine (HCK.out _ E8.out).mono ?_; rintro e w9 ⟨rfl, e9⟩; have X9 := Lib.hid (X8.out.ext e9); have Y9 := Lib.hid (Y8.out.ext e9); have Z9 := Lib.hid (Z8.out.ext e9); have O9 := Lib.hid (O8.out.ext e9); have E9 := Lib.hid (E8.out.trans e9); clear e9 x0 x1 r0 r1 r2 r3 r4 r5))
    have KS : Hid (∀ W, Ext w9 W → (Ext w9 W ∧ (W.cell? ⟨g1, 0, none⟩ = some (.int .u64 seq) ∧ W.cell? ⟨g1, 1, none⟩ = some (.slice A xs.length c)) ∧ (W.cell? ⟨g3, 0, none⟩ = some (.int .u64 r.seq) ∧ W.cell? ⟨g3, 1, none⟩ = some (.int .i64 r.kind) ∧ W.cell? ⟨g3, 2, none⟩ = some (.string r.ten) ∧ W.cell? ⟨g3, 3, none⟩ = some (.int .u64 r.lease) ∧ W.cell? ⟨g3, 4, none⟩ = some (.int .u64 r.n) ∧ W.cell? ⟨g3, 5, none⟩ = some (.int .u64 r.bits)))) := fun W e => ⟨e, lg_cells (X9.out.ext e), rc_cells (Y9.out.ext e)⟩
    go_region_held3 (fun W => (Ext w9 W ∧ (W.cell? ⟨g1, 0, none⟩ = some (.int .u64 seq) ∧ W.cell? ⟨g1, 1, none⟩ = some (.slice A xs.length c)) ∧ (W.cell? ⟨g3, 0, none⟩ = some (.int .u64 r.seq) ∧ W.cell? ⟨g3, 1, none⟩ = some (.int .i64 r.kind) ∧ W.cell? ⟨g3, 2, none⟩ = some (.string r.ten) ∧ W.cell? ⟨g3, 3, none⟩ = some (.int .u64 r.lease) ∧ W.cell? ⟨g3, 4, none⟩ = some (.int .u64 r.n) ∧ W.cell? ⟨g3, 5, none⟩ = some (.int .u64 r.bits)))) (first | with_reducible exact KS.out _ (Ext.refl _).drew | with_reducible exact KS.out _ (by with_reducible assumption)) (first | (go_at_call 36; refine (HLC.out _ (E9.out.trans (by first | with_reducible assumption | with_reducible exact (Ext.refl _).drew | with_reducible exact Ext.refl _))).mono ?_; rintro e w10 ⟨rfl, e10⟩; have T10 : Ext w9 w10 := Ext.trans (by first | with_reducible assumption | with_reducible exact (Ext.refl _).drew | with_reducible exact Ext.refl _) e10; clear e10) | (go_at_call 37; refine (HFI.out _ (E9.out.trans (by first | with_reducible assumption | with_reducible exact (Ext.refl _).drew | with_reducible exact Ext.refl _))).mono ?_; rintro e w10 ⟨L1, l1, C1, c1, rfl, o10, e10⟩; have T11 : Ext w9 w10 := Ext.trans (by first | with_reducible assumption | with_reducible exact (Ext.refl _).drew | with_reducible exact Ext.refl _) e10; have P1 := Lib.hid o10; first | (have P2 := Lib.hid (P2.out.ext e10)) | skip; clear o10 e10) | (go_at_call 38; refine (HAC.out _ (E9.out.trans (by first | with_reducible assumption | with_reducible exact (Ext.refl _).drew | with_reducible exact Ext.refl _))).mono ?_; rintro e w11 ⟨L2, l2, C2, c2, rfl, o11, e11⟩; have T12 : Ext w9 w11 := Ext.trans (by first | with_reducible assumption | with_reducible exact (Ext.refl _).drew | with_reducible exact Ext.refl _) e11; have P2 := Lib.hid o11; first | (have P1 := Lib.hid (P1.out.ext e11)) | skip; clear o11 e11) | (go_at_call 20; refine (HSM.out _ _ _ _ _ _ _ _ _ P1.out P2.out).mono ?_; rintro e w12 ⟨rfl, e12⟩; have T13 : Ext w9 w12 := Ext.trans (by first | with_reducible assumption | with_reducible exact (Ext.refl _).drew | with_reducible exact Ext.refl _) e12; clear e12))
    all_goals
      have Z12 := Lib.hid (Z9.out.ext T13)
      have O12 := Lib.hid (O9.out.ext T13)
      have E12 := Lib.hid (E9.out.trans T13)
      obtain ⟨z0, z1⟩ := lg_cells Z12.out
      clear KS
      go_wp2_with (first | (go_at_call 29; refine (HSL.out _ A8 c8 zs O12.out.rdl (fun x hx => (O12.out.2 x hx).2.1) HZ.out).mono ?_; rintro e w14 ⟨rfl, e14⟩; have E14 := Lib.hid (E12.out.trans e14); clear e14 z0 z1) | (go_at_call 33; refine (HAW.out _ E14.out).mono ?_; rintro e w15 ⟨rfl, e15⟩; have E15 := Lib.hid (E14.out.trans e15); clear e15))
      go_ret
      exact ⟨rfl, E15.out⟩
end Go.Proofs.YtkbjnlbbfapgdaaDoor

