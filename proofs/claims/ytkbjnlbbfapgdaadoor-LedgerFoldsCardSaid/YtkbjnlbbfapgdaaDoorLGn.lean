/- ref16.Check. ref16.Fold. ref16.Right. ledger.Right. slices.EqualFunc of accounts, by acct.Same; ledger.Same. Lists of records: those that came in; ref11.Large. The plain law of folds: a ledger that is right stays right; members stay in their bounds. The law LedgerFolds: any ledger whose names rise behind any records; it stays right, if it was. -/
import Derived.Test.YtkbjnlbbfapgdaaDoorLGk
import Derived.Test.YtkbjnlbbfapgdaaDoorLGa
import Derived.Deep.RegionWith
import Derived.Test.YtkbjnlbbfapgdaaDoorRef16e
import Derived.Test.YtkbjnlbbfapgdaaDoorLGb
import Derived.Test.YtkbjnlbbfapgdaaDoorQuietE
import Derived.Test.YtkbjnlbbfapgdaaDoorAcctR
import Derived.Test.YtkbjnlbbfapgdaaDoorAcctI
import Derived.Test.YtkbjnlbbfapgdaaDoorAcctS
import Derived.Test.YtkbjnlbbfapgdaaDoorAcctL
import Derived.Deep.RegionHeld3
set_option maxRecDepth 100000
set_option linter.unusedVariables false
set_option linter.unusedSimpArgs false
namespace Go.Proofs.YtkbjnlbbfapgdaaDoor
open Go.RowKit

theorem rec_seq {r : Rc} (h : recE r.seq r.kind r.ten r.lease r.n r.bits = 0) : r.seq ≠ 0 := by
  intro h0
  unfold recE at h
  split at h
  · cases h
  · split at h
    · cases h
    · rw [if_pos (.inl h0)] at h
      cases h
theorem findR_neg (l : List Ac) (s : ByteArray) : findR l s < 0 ↔ thereB l s.data.toList = false := by
  unfold findR
  cases thereB l s.data.toList with
  | true => simp
  | false => simp
set_option maxHeartbeats 8000000 in
theorem rlchk_calls (seq : Nat) (A : Option Addr) (c : Nat) (xs : List Ax) (r : Rc) (w : World) (hb : RdL w A xs) (hok : ∀ x ∈ xs, x.a.ok) (hl : xs.length ≤ 100000) (hrk : r.ok) (ht : r.ten.size ≤ 1000000) (hs : seq < 18446744073709551616) :
    Calls Tryd.prog 35 #[lgA seq A xs.length c, rcA r] w (RetV w (.int .i64 (chkL seq (acs xs) r))) := by
  have HB := Lib.hid hb
  have HC : Hid (∀ W, Calls Tryd.prog 84 #[(.agg #[.int .u64 r.seq, .int .i64 r.kind, .string r.ten, .int .u64 r.lease, .int .u64 r.n, .int .u64 r.bits])] W (RetV W (.int .i64 (recE r.seq r.kind r.ten r.lease r.n r.bits)))) := fun W => rcheck_calls r.seq r.kind r.ten r.lease r.n r.bits W hrk.2.2.2.1 ht
  have HF : Hid (∀ W, Ext w W → Calls Tryd.prog 85 #[(.agg #[.int .u64 seq, .slice A xs.length c]), .string r.ten] W (RetV W (.int .i64 (findR (acs xs) r.ten)))) := fun W e => rfind_calls seq A c xs r.ten W (hb.ext e) (by omega)
  have HAC : Hid (∀ W, Ext w W → Calls Tryd.prog 38 #[(.agg #[.int .u64 seq, .slice A xs.length c]), .string r.ten] W (fun e w' => ∃ a L l C cc, e = .returned (.agg #[.string a.ten, .int .u64 a.cap, .int .u64 a.used, .int .u64 a.bits, .int .u64 a.per, .slice L a.ls.length l, .slice C a.cl.length cc]) ∧ chkA a r = chkA (accOf (acs xs) r.ten) r ∧ RdA w' a L C ∧ a.ok ∧ Ext W w')) := fun W e => by
    refine (raccount_calls seq A c xs r.ten W (hb.ext e) (by omega)).mono ?_
    rintro e' w' ⟨x, hx, hxa, h1, h2⟩
    refine ⟨x.a, x.AL, x.cL, x.AC, x.cC, h1, by rw [hxa], ?_, ?_, h2⟩
    · rcases hx with hx | rfl
      · exact ((hb.each x hx).ext (e.trans h2)).rd
      · exact ⟨RdE.nil, RdE.nil⟩
    · rcases hx with hx | rfl
      · exact hok x hx
      · exact acNone_ok ht
  have HCH : Hid (∀ W a L l C cc, RdA W a L C → a.ok → Calls Tryd.prog 86 #[.agg #[.string a.ten, .int .u64 a.cap, .int .u64 a.used, .int .u64 a.bits, .int .u64 a.per, .slice L a.ls.length l, .slice C a.cl.length cc], (.agg #[.int .u64 r.seq, .int .i64 r.kind, .string r.ten, .int .u64 r.lease, .int .u64 r.n, .int .u64 r.bits])] W (RetV W (.int .i64 (chkA a r)))) := fun W a L l C cc h1 h2 => rachk_calls a r L C l cc W h1 h2 hrk ht
  have HRS : Hid (recE r.seq r.kind r.ten r.lease r.n r.bits = 0 → r.seq ≠ 0) := rec_seq
  have HFN : Hid (findR (acs xs) r.ten < 0 ↔ thereB (acs xs) r.ten.data.toList = false) := findR_neg _ _
  have HV : Hid (chkL seq (acs xs) r = if recE r.seq r.kind r.ten r.lease r.n r.bits ≠ 0 then recE r.seq r.kind r.ten r.lease r.n r.bits
      else if r.seq ≠ (seq + 1) % 18446744073709551616 then 12 else if thereB (acs xs) r.ten.data.toList = false ∧ 8 ≤ xs.length then 15 else chkA (accOf (acs xs) r.ten) r) := by
    show _ = _
    unfold chkL
    rw [acs_len]
  have HSQ := Lib.hid hs
  clear hb hok hrk ht
  generalize chkL seq (acs xs) r = V at *
  generalize recE r.seq r.kind r.ten r.lease r.n r.bits = E at *
  generalize findR (acs xs) r.ten = p at *
  generalize thereB (acs xs) r.ten.data.toList = th at *
  generalize chkA (accOf (acs xs) r.ten) r = K at *
  unfold lgA rcA
  go_enter Tryd.func35, Tryd.ntmps35
  go_wp2_with (first
    | ((with_reducible show wpList _ _ _ ({ dst := some 2, op := Op.box 40 _, type := _, pos := _, after := _, guard := _ } :: _) _ _); refine bxA _ rfl 40 _ rfl _ rfl ?_; intro g1 w1 hg hs1 k1 e1; have X0 := Lib.hid k1; have E0 := Lib.hid e1; clear hg hs1 k1 e1)
    | ((with_reducible show wpList _ _ _ ({ dst := some 3, op := Op.box 28 _, type := _, pos := _, after := _, guard := _ } :: _) _ _); refine bxA _ rfl 28 _ rfl _ rfl ?_; intro g3 w3 hg hs1 k1 e1; have X3 := Lib.hid k1; have X1 := Lib.hid (X0.out.ext e1); have E1 := Lib.hid (E0.out.trans e1); obtain ⟨r0, r1, r2, r3, r4, r5⟩ := rc_cells k1; clear hg hs1 k1 e1 X0 E0))
  refine (HC.out _).mono ?_
  rintro e w4 ⟨rfl, e4⟩
  have E4 := Lib.hid (E1.out.trans e4)
  have X4 := Lib.hid (X1.out.ext e4)
  have Y4 := Lib.hid (X3.out.ext e4)
  clear e4 r0 r1 r2 r3 r4 r5 X1 X3 E1 HC
  obtain ⟨a0, a1⟩ := lg_cells X4.out
  obtain ⟨r0, r1, r2, r3, r4, r5⟩ := rc_cells Y4.out
  by_cases h0 : E = 0
  · subst h0
    rw [if_neg (by simp)] at HV
    have HR0 := Lib.hid (HRS.out rfl)
    by_cases hmx : seq = 18446744073709551615
    · have hv : V = 12 := by rw [HV.out, if_pos (by rw [hmx]; have := HR0.out; omega)]
      have q1 : ((seq : Int) == 18446744073709551615) = true := by rw [hmx]; rfl
      clear hmx hs
      go_wp2_with fail
      go_ret
      rw [hv]
      exact ⟨rfl, E4.out⟩
    have q1 : ((seq : Int) == 18446744073709551615) = false := by simp; omega
    have hM : (seq + 1) % 18446744073709551616 = seq + 1 := by omega
    rw [hM] at HV
    have u1 : IntKind.u64.wrap ((seq : Int) + 1) = (((seq + 1 : Nat)) : Int) := by rw [IntWalk.u64_in _ (by omega)]; omega
    clear hmx hM hs
    generalize seq + 1 = M at *
    by_cases hm : r.seq = M
    · rw [if_neg (by simpa using hm)] at HV
      have q2 : ((r.seq : Int) != (M : Int)) = false := by simp [hm]
      clear hm
      have RC : Hid (∀ W, Ext w4 W → (W.cell? ⟨g1, 0, none⟩ = some (.int .u64 seq) ∧ W.cell? ⟨g1, 1, none⟩ = some (.slice A xs.length c)) ∧ (W.cell? ⟨g3, 0, none⟩ = some (.int .u64 r.seq) ∧ W.cell? ⟨g3, 1, none⟩ = some (.int .i64 r.kind) ∧ W.cell? ⟨g3, 2, none⟩ = some (.string r.ten) ∧ W.cell? ⟨g3, 3, none⟩ = some (.int .u64 r.lease) ∧ W.cell? ⟨g3, 4, none⟩ = some (.int .u64 r.n) ∧ W.cell? ⟨g3, 5, none⟩ = some (.int .u64 r.bits))) := fun W e => ⟨lg_cells (X4.out.ext e), rc_cells (Y4.out.ext e)⟩
      by_cases hp : p < 0
      · have hth := HFN.out.1 hp
        by_cases h8 : 8 ≤ xs.length
        · rw [if_pos ⟨hth, h8⟩] at HV
          have q3 : decide (p < 0) = true := decide_eq_true hp
          have q4 : decide ((8 : Int) ≤ (xs.length : Int)) = true := decide_eq_true (by omega)
          clear hp hth h8
          go_wp2_with (first | (go_at_call 85; refine (HF.out _ E4.out).mono ?_; rintro e w5 ⟨rfl, e5⟩; have E5 := Lib.hid (E4.out.trans e5); obtain ⟨⟨b0, b1⟩, _⟩ := RC.out _ e5; clear e5 a0 a1 r0 r1 r2 r3 r4 r5))
          go_ret
          rw [HV.out]
          exact ⟨rfl, E5.out⟩
        · rw [if_neg (fun h => h8 h.2)] at HV
          have q3 : decide (p < 0) = true := decide_eq_true hp
          have q4 : decide ((8 : Int) ≤ (xs.length : Int)) = false := decide_eq_false (by omega)
          clear hp hth h8
          go_wp2_with (first | (go_at_call 85; refine (HF.out _ E4.out).mono ?_; rintro e w5 ⟨rfl, e5⟩; have T5 : Ext w4 w5 := e5; have E5 := Lib.hid (E4.out.trans e5); have TT5 := Lib.hid T5; obtain ⟨⟨b0, b1⟩, s0, s1, s2, s3, s4, s5⟩ := RC.out _ e5; clear e5 T5 a0 a1 r0 r1 r2 r3 r4 r5))
          (go_region_with (first | (go_at_call 38; refine (HAC.out _ (E5.out.trans (by first | exact (Ext.refl _).drew | assumption | exact Ext.refl _))).mono ?_; rintro e w6 ⟨a6, L6, l6, C6, c6, rfl, hk6, p6, ok6, e6⟩; have T6 : Ext w5 w6 := Ext.trans (by first | exact (Ext.refl _).drew | assumption | exact Ext.refl _) e6; have P6 := Lib.hid p6; have O6 := Lib.hid ok6; have K6 := Lib.hid hk6; clear b0 b1 s0 s1 s2 s3 s4 s5; obtain ⟨⟨b0, b1⟩, s0, s1, s2, s3, s4, s5⟩ := RC.out _ (TT5.out.trans T6); clear p6 ok6 hk6 e6) | (go_at_call 86; refine (HCH.out _ _ _ _ _ _ P6.out O6.out).mono ?_; rintro e w7 ⟨rfl, e7⟩; have T7 := Lib.hid (T6.trans e7); clear e7)); all_goals (go_wp2_with fail; go_ret; rw [HV.out, ← K6.out]; exact ⟨rfl, E5.out.trans T7.out⟩))
      · have hth : th = true := by
          cases h : th with
          | true => rfl
          | false => exact absurd (HFN.out.2 h) hp
        rw [if_neg (by rw [hth]; simp)] at HV
        have q3 : decide (p < 0) = false := decide_eq_false hp
        clear hp hth
        go_wp2_with (first | (go_at_call 85; refine (HF.out _ E4.out).mono ?_; rintro e w5 ⟨rfl, e5⟩; have T5 : Ext w4 w5 := e5; have E5 := Lib.hid (E4.out.trans e5); have TT5 := Lib.hid T5; obtain ⟨⟨b0, b1⟩, s0, s1, s2, s3, s4, s5⟩ := RC.out _ e5; clear e5 T5 a0 a1 r0 r1 r2 r3 r4 r5))
        (go_region_with (first | (go_at_call 38; refine (HAC.out _ (E5.out.trans (by first | exact (Ext.refl _).drew | assumption | exact Ext.refl _))).mono ?_; rintro e w6 ⟨a6, L6, l6, C6, c6, rfl, hk6, p6, ok6, e6⟩; have T6 : Ext w5 w6 := Ext.trans (by first | exact (Ext.refl _).drew | assumption | exact Ext.refl _) e6; have P6 := Lib.hid p6; have O6 := Lib.hid ok6; have K6 := Lib.hid hk6; clear b0 b1 s0 s1 s2 s3 s4 s5; obtain ⟨⟨b0, b1⟩, s0, s1, s2, s3, s4, s5⟩ := RC.out _ (TT5.out.trans T6); clear p6 ok6 hk6 e6) | (go_at_call 86; refine (HCH.out _ _ _ _ _ _ P6.out O6.out).mono ?_; rintro e w7 ⟨rfl, e7⟩; have T7 := Lib.hid (T6.trans e7); clear e7)); all_goals (go_wp2_with fail; go_ret; rw [HV.out, ← K6.out]; exact ⟨rfl, E5.out.trans T7.out⟩))
    · rw [if_pos hm] at HV
      have q2 : ((r.seq : Int) != (M : Int)) = true := by simp; omega
      clear hm
      go_wp2_with fail
      go_ret
      rw [HV.out]
      exact ⟨rfl, E4.out⟩
  · have q0 : (E != 0) = true := by simpa using h0
    rw [if_pos h0] at HV
    clear h0
    go_wp2_with fail
    go_ret
    rw [HV.out]
    exact ⟨rfl, E4.out⟩
end Go.Proofs.YtkbjnlbbfapgdaaDoor

namespace Go.Proofs.YtkbjnlbbfapgdaaDoor
open Go.RowKit

/-- a block of a ledger holds no row of accounts, leases, statements: by what stands in it -/
theorem off_str {w : World} {g : Nat} {t : TypeId} {s : Nat} {B : Option Addr} {n c : Nat} (H : Arr w g t #[.int .u64 s, .slice B n c]) {ad : Addr} {u : ByteArray} (h : w.cell? ad = some (.string u)) : ad.block ≠ g := fun e => by
  unfold Arr at H
  unfold World.cell? at h
  rw [e, H] at h
  simp only at h
  split at h
  · cases h
  · rcases ad with ⟨b, o, sp⟩
    rcases o with _ | _ | o <;> simp at h
theorem off_int2 {w : World} {g : Nat} {t : TypeId} {s : Nat} {B : Option Addr} {n c : Nat} (H : Arr w g t #[.int .u64 s, .slice B n c]) {ad : Addr} {k1 k2 : IntKind} {u v : Int} (h : w.cell? ad = some (.int k1 u)) (h2 : w.cell? ⟨ad.block, ad.off + 1, none⟩ = some (.int k2 v)) : ad.block ≠ g := fun e => by
  have h3 := h
  unfold Arr at H
  unfold World.cell? at h h2
  rw [e, H] at h
  simp only at h2
  rw [e, H] at h2
  simp only at h h2
  split at h
  · cases h
  · rcases ad with ⟨b, o, sp⟩
    rcases o with _ | _ | o <;> simp at h h2
theorem blk_some (ad : Addr) : blk (some ad) = some ad.block := rfl
theorem add_block (ad : Addr) (n : Nat) : (ad.add n).block = ad.block := by unfold Addr.add; split <;> rfl
theorem Ax.apG {w : World} {g : Nat} {t : TypeId} {s : Nat} {B : Option Addr} {n c : Nat} (H : Arr w g t #[.int .u64 s, .slice B n c]) {x : Ax} (h : x.in_ w) : x.ap (some ⟨g, 0, none⟩) := by
  refine ⟨fun hn k hk he => ?_, fun hn k hk he => ?_⟩
  · have hp : 0 < x.a.ls.length := List.length_pos_iff.2 hn
    obtain ⟨ad, hA, h1, h2⟩ := h.rd.1.two hp
    have := off_int2 H h1 h2
    rw [add_block] at this
    rw [hA] at hk
    rw [blk_some] at he hk
    injection he with he; injection hk with hk
    exact this (hk.trans he.symm)
  · have hp : 0 < x.a.cl.length := List.length_pos_iff.2 hn
    obtain ⟨ad, hA, h1, _⟩ := h.rd.2.six hp
    have := off_str H h1
    rw [add_block] at this
    rw [hA] at hk
    rw [blk_some] at he hk
    injection he with he; injection hk with hk
    exact this (hk.trans he.symm)
theorem RdL.keepG {w w1 : World} {g : Nat} {t : TypeId} {s : Nat} {B : Option Addr} {n c : Nat} (H : Arr w g t #[.int .u64 s, .slice B n c]) {A : Option Addr} {xs : List Ax} (h : RdL w A xs) (hg : w.grownBy w1 (some g)) : RdL w1 A xs := by
  refine ⟨?_, fun x hx => Ax.keep (h.each x hx) (Ax.apG H (h.each x hx)) hg⟩
  cases xs with
  | nil => exact RdE.nil
  | cons x l =>
    obtain ⟨ad, hA, h1, _⟩ := h.rd.seven (i := 0) (by simp)
    have := off_str H h1
    rw [add_block] at this
    refine RdE.grown h.rd hg fun ad' he hb => ?_
    rw [hA] at he
    injection he with he
    subst he
    injection hb with hb
    exact this hb

set_option maxHeartbeats 16000000 in
theorem rlfold_calls (seq : Nat) (A : Option Addr) (c : Nat) (xs : List Ax) (R : Option Addr) (rc : Nat) (rs : List Rc) (w : World) (hb : RdL w A xs) (hok : ∀ x ∈ xs, x.a.ok) (hl : xs.length ≤ 100) (hr : Rises (acs xs)) (hs : seq < 18446744073709551616)
    (hn : ∀ x ∈ xs, x.a.ls.length ≤ 1000 ∧ x.a.cl.length ≤ 1000) (hR : RdE rcs w R rs) (hrs : ∀ r ∈ rs, r.ok ∧ r.ten.size ≤ 1000000) (hrl : rs.length ≤ 1000) :
    Calls Tryd.prog 44 #[lgA seq A xs.length c, .slice R rs.length rc] w (fun e w' => ∃ A' c', ∃ ys : List Ax, e = .returned (.tuple #[(.agg #[.int .u64 (foldLg seq (acs xs) rs).1, .slice A' ys.length c']), .int .i64 ((foldLg seq (acs xs) rs).2.2 : Nat)]) ∧ acs ys = (foldLg seq (acs xs) rs).2.1 ∧ RdL w' A' ys ∧ (∀ y ∈ ys, y.a.ok) ∧ Ext w w') := by
  have HR := Lib.hid hR
  have HRS := Lib.hid hrs
  have HB := Lib.hid hb
  have HOK := Lib.hid hok
  have HRI := Lib.hid hr
  have HN : Hid (∀ a ∈ acs xs, a.ls.length ≤ 1000 ∧ a.cl.length ≤ 1000) := fun a ha => by
    obtain ⟨x, hx, rfl⟩ := List.mem_map.1 ha
    exact hn x hx
  have HXL : Hid ((acs xs).length ≤ 100) := by show _ ≤ _; simpa using hl
  obtain ⟨F, hF⟩ : ∃ F, F = foldLg seq (acs xs) rs := ⟨_, rfl⟩
  rw [← hF]
  have HFF := Lib.hid hF
  have HS := Lib.hid hs
  have HRL := Lib.hid hrl
  clear hb hok hr hn hR hrs hl hF hs hrl
  unfold lgA
  go_enter Tryd.func44, Tryd.ntmps44
  go_wp2_with (first
    | ((with_reducible show wpList _ _ _ ({ dst := some 2, op := Op.box 40 _, type := _, pos := _, after := _, guard := _ } :: _) _ _); refine bxA _ rfl 40 _ rfl _ rfl ?_; intro g2 w1 hg hs1 k1 e1; have X1 := Lib.hid k1; have E1 := Lib.hid e1; have G2 := Lib.hid (Nat.le_of_eq hg); clear hg hs1 k1 e1)
    | ((with_reducible show wpList _ _ _ ({ dst := some 4, op := Op.alloc 40, type := _, pos := _, after := _, guard := _ } :: _) _ _); refine alA _ rfl 40 rfl _ _ zero_lg ?_; intro g4 w4 hg hs1 k1 e1; have Z4 := Lib.hid k1; have X4 := Lib.hid (X1.out.ext e1); have E4 := Lib.hid (E1.out.trans e1); have G4 := Lib.hid (show w.heap.size ≤ g4 ∧ g2 < g4 from ⟨by have := E1.out.size; omega, by have := X1.out.lt; omega⟩); clear hg hs1 k1 e1 X1 E1))
  go_loopw [6] (fun i wr => ∃ k sq A' c', ∃ ys : List Ax, k ≤ rs.length ∧ i = .int .i64 (k : Nat) ∧ sq < 18446744073709551616 ∧ F = ((foldLg sq (acs ys) (rs.drop k)).1, (foldLg sq (acs ys) (rs.drop k)).2.1, (foldLg sq (acs ys) (rs.drop k)).2.2 + k) ∧ Rises (acs ys) ∧ (∀ a ∈ acs ys, a.ls.length ≤ 1000 + k ∧ a.cl.length ≤ 1000 + k) ∧ (acs ys).length ≤ 100 + k ∧
    Arr wr g2 40 #[.int .u64 sq, .slice A' ys.length c'] ∧ Arr wr g4 40 #[.int .u64 0, .slice none 0 0] ∧ RdL wr A' ys ∧ (∀ y ∈ ys, y.a.ok) ∧ Ext w wr) (fun i _ => rs.length - (intOf i).toNat)
  case atStart => exact ⟨0, seq, A, c, xs, Nat.zero_le _, rfl, HS.out, by rw [HFF.out]; rfl, HRI.out, HN.out, HXL.out, X4.out, Z4.out, HB.out.ext E4.out, HOK.out, E4.out⟩
  case round =>
    obtain ⟨k, sq, A', c', ys, hk, rfl, hsq, hF, hri, hln, hxl, x0', z0', o0', q0', e0'⟩ := hrel
    have HF := Lib.hid hF
    have HRI0 := Lib.hid hri
    have HLN := Lib.hid hln
    have HXL0 := Lib.hid hxl
    have X0 := Lib.hid x0'
    have Z0 := Lib.hid z0'
    have O0 := Lib.hid o0'
    have Q0 := Lib.hid q0'
    have E0 := Lib.hid e0'
    have HSQ := Lib.hid hsq
    clear hF hri hln hxl x0' z0' o0' q0' e0' hsq X4 Z4 E4 HN HXL HRI HFF HB HOK
    obtain ⟨a0, a1⟩ := lg_cells X0.out
    by_cases hlt : k < rs.length
    · have HRD : Hid (∀ W, Ext wr W → ∃ ad, R = some ad ∧ W.cell? (ad.add (k * 6)) = some (.int .u64 rs[k].seq) ∧ W.cell? ⟨(ad.add (k * 6)).block, (ad.add (k * 6)).off + 1, none⟩ = some (.int .i64 rs[k].kind) ∧ W.cell? ⟨(ad.add (k * 6)).block, (ad.add (k * 6)).off + 2, none⟩ = some (.string rs[k].ten) ∧ W.cell? ⟨(ad.add (k * 6)).block, (ad.add (k * 6)).off + 3, none⟩ = some (.int .u64 rs[k].lease) ∧ W.cell? ⟨(ad.add (k * 6)).block, (ad.add (k * 6)).off + 4, none⟩ = some (.int .u64 rs[k].n) ∧ W.cell? ⟨(ad.add (k * 6)).block, (ad.add (k * 6)).off + 5, none⟩ = some (.int .u64 rs[k].bits)) := fun W e => (HR.out.ext (E0.out.trans e)).sixR hlt
      obtain ⟨ad, hA, _⟩ := HRD.out _ (Ext.refl _)
      subst hA
      have hrk := HRS.out _ (List.getElem_mem hlt)
      have HD := Lib.hid (drop_cons hlt)
      have k1 : (k : Int) < (rs.length : Int) := by omega
      have hkr : k + 1 ≤ 1000 := by have := HRL.out; omega
      generalize rs[k] = r at *
      have HRK := Lib.hid hrk
      clear hrk
      have hylen : ys.length ≤ 1100 := by have := HXL0.out; simp at this; omega
      have HCK : Hid (∀ W, Ext wr W → Calls Tryd.prog 35 #[(.agg #[.int .u64 sq, .slice A' ys.length c']), (.agg #[.int .u64 r.seq, .int .i64 r.kind, .string r.ten, .int .u64 r.lease, .int .u64 r.n, .int .u64 r.bits])] W (RetV W (.int .i64 (chkL sq (acs ys) r)))) := fun W e => rlchk_calls sq A' c' ys r W (O0.out.ext e) Q0.out (by omega) HRK.out.1 HRK.out.2 HSQ.out
      have KS : Hid (∀ W, Ext wr W → (W.cell? ⟨g2, 0, none⟩ = some (.int .u64 sq) ∧ W.cell? ⟨g2, 1, none⟩ = some (.slice A' ys.length c')) ∧ (W.cell? (ad.add (k * 6)) = some (.int .u64 r.seq) ∧ W.cell? ⟨(ad.add (k * 6)).block, (ad.add (k * 6)).off + 1, none⟩ = some (.int .i64 r.kind) ∧ W.cell? ⟨(ad.add (k * 6)).block, (ad.add (k * 6)).off + 2, none⟩ = some (.string r.ten) ∧ W.cell? ⟨(ad.add (k * 6)).block, (ad.add (k * 6)).off + 3, none⟩ = some (.int .u64 r.lease) ∧ W.cell? ⟨(ad.add (k * 6)).block, (ad.add (k * 6)).off + 4, none⟩ = some (.int .u64 r.n) ∧ W.cell? ⟨(ad.add (k * 6)).block, (ad.add (k * 6)).off + 5, none⟩ = some (.int .u64 r.bits))) := fun W e => by
        obtain ⟨ad2, h1, h2⟩ := HRD.out W e
        injection h1 with h1
        subst h1
        exact ⟨lg_cells (X0.out.ext e), h2⟩
      clear HRD
      by_cases hc : chkL sq (acs ys) r = 0
      · have HAP : Hid (∀ W, Ext wr W → Calls Tryd.prog 39 #[(.agg #[.int .u64 sq, .slice A' ys.length c']), (.agg #[.int .u64 r.seq, .int .i64 r.kind, .string r.ten, .int .u64 r.lease, .int .u64 r.n, .int .u64 r.bits])] W (fun e w' => ∃ A8 c8, ∃ zs : List Ax, e = .returned ((.agg #[.int .u64 r.seq, .slice A8 zs.length c8])) ∧ acs zs = comL (acs ys) r ∧ RdL w' A8 zs ∧ (∀ y ∈ zs, y.a.ok) ∧ Ext W w')) := fun W e =>
          rlapply_calls sq A' c' ys r W (O0.out.ext e) Q0.out (by omega) HRI0.out HRK.out.1 HRK.out.2 (fun x hx => by have := HLN.out x.a (List.mem_map_of_mem hx); omega) hc
        have HF1 : Hid (F = ((foldLg r.seq (comL (acs ys) r) (rs.drop (k + 1))).1, (foldLg r.seq (comL (acs ys) r) (rs.drop (k + 1))).2.1, (foldLg r.seq (comL (acs ys) r) (rs.drop (k + 1))).2.2 + (k + 1))) := by
          show _ = _
          rw [HF.out, HD.out]
          simp only [foldLg]
          rw [if_pos hc]
          simp only [Prod.mk.injEq, true_and]
          omega
        rw [hc] at HCK
        clear hc
        go_wp2_with fail
        refine wp_region_quietE wr (Ext.refl _) (by kernel_rfl) (by kernel_rfl) ?_
        repeat (first | (apply wpq_skip; (focus rfl); (try simp only [Act.put, List.setIfInBounds_toArray, List.set_cons_zero, List.set_cons_succ])) | ((with_reducible show QGoal _ _ _ _ ({ dst := _, op := Op.call { callee := Callee.value (Operand.func 35), args := _, argTypes := _ }, type := _, pos := _, after := _, guard := _ } :: _) _); apply wpq_call (hc := HCK.out); (focus rfl); (focus (intro W hW; go_simp; (first | done | with_reducible rfl))); (try simp only [Act.put, List.setIfInBounds_toArray, List.set_cons_zero, List.set_cons_succ])) | (apply wpq_take; (focus rfl); (focus (intro W hW; obtain ⟨⟨a0, a1⟩, ⟨r0, r1, r2, r3, r4, r5⟩⟩ := KS.out W hW; go_simp; (first | done | with_reducible rfl))); (try simp only [Act.put, List.setIfInBounds_toArray, List.set_cons_zero, List.set_cons_succ])))
        refine wpq_nil ?_
        intro w9 S9
        go_wp2_with fail
        have S10 := Lib.hid (show Ext wr w9.drew from Ext.drew S9)
        refine wp_region_still_tail 5 (by kernel_rfl) (by kernel_rfl) ?_
        simp only [List.take_succ_cons, List.take_zero, List.drop_succ_cons, List.drop_zero]
        change wpStill _ _ w9.drew (fun a' => wpList _ _ _ _ a' w9.drew) _ _
        generalize w9.drew = wd at *
        clear a0 a1
        obtain ⟨⟨a0, a1⟩, ⟨r0, r1, r2, r3, r4, r5⟩⟩ := KS.out _ S10.out
        repeat still_step
        refine wpStill_nil ?_
        go_wp2_with (first
          | (go_at_call 39; refine (HAP.out _ S10.out).mono ?_; rintro e w10 ⟨A8, c8, zs, rfl, hz, o10, p10, e10⟩; have O10 := Lib.hid o10; have P10 := Lib.hid p10; have HZ := Lib.hid hz; have X10 := Lib.hid (X0.out.ext (S10.out.trans e10)); have Z10 := Lib.hid (Z0.out.ext (S10.out.trans e10)); have E10 := Lib.hid (E0.out.trans (S10.out.trans e10)); clear hz o10 p10 e10 a0 a1 r0 r1 r2 r3 r4 r5)
          | ((with_reducible show wpList _ _ _ ({ dst := none, op := Op.store 40 (Operand.tmp 2) _, type := _, pos := _, after := _, guard := _ } :: _) _ _); refine stA _ rfl 40 40 _ _ rfl g2 _ #[.int .u64 r.seq, .slice A8 zs.length c8] rfl rfl X10.out size_lg rfl (lg_one _ _ _ _) ?_; intro w11 hs11 k11 g11; have X11 := Lib.hid k11; have Z11 := Lib.hid (Z10.out.grown g11 (by have := G4.out.2; intro hh; injection hh; omega)); have E11 := Lib.hid (E10.out.grown g11 (fun q hq => by injection hq with hq; have := G2.out; omega)); have O11 := Lib.hid (RdL.keepG X10.out O10.out g11); clear hs11 k11 g11))
        go_roundw
        case rel => exact ⟨k + 1, r.seq, A8, c8, zs, by omega, by go_num, HRK.out.1.1, by rw [HZ.out]; exact HF1.out, by rw [HZ.out]; exact com_rises HRI0.out r, by rw [HZ.out]; exact fun a ha => by have := com_lens HLN.out a ha; omega, by rw [HZ.out]; have := com_len1 (acs ys) r; have := HXL0.out; omega, X11.out, Z11.out, O11.out, P10.out, E11.out⟩
        case measure => simp [intOf]; omega
      · have HF1 : Hid (F = (sq, acs ys, k)) := by
          show _ = _
          rw [HF.out, HD.out]
          simp only [foldLg]
          rw [if_neg hc]
          simp
        have q0 : (chkL sq (acs ys) r != 0) = true := by simpa using hc
        clear hc
        generalize chkL sq (acs ys) r = V at *
        go_wp2_with fail
        refine wp_region_quietE wr (Ext.refl _) (by kernel_rfl) (by kernel_rfl) ?_
        repeat (first | (apply wpq_skip; (focus rfl); (try simp only [Act.put, List.setIfInBounds_toArray, List.set_cons_zero, List.set_cons_succ])) | ((with_reducible show QGoal _ _ _ _ ({ dst := _, op := Op.call { callee := Callee.value (Operand.func 35), args := _, argTypes := _ }, type := _, pos := _, after := _, guard := _ } :: _) _); apply wpq_call (hc := HCK.out); (focus rfl); (focus (intro W hW; go_simp; (first | done | with_reducible rfl))); (try simp only [Act.put, List.setIfInBounds_toArray, List.set_cons_zero, List.set_cons_succ])) | (apply wpq_take; (focus rfl); (focus (intro W hW; obtain ⟨⟨a0, a1⟩, ⟨r0, r1, r2, r3, r4, r5⟩⟩ := KS.out W hW; go_simp; (first | done | with_reducible rfl))); (try simp only [Act.put, List.setIfInBounds_toArray, List.set_cons_zero, List.set_cons_succ])))
        refine wpq_nil ?_
        intro w9 S9
        clear a0 a1
        obtain ⟨a0, a1⟩ := lg_cells (X0.out.ext S9)
        go_wp2_with (first
          | ((with_reducible show wpList _ _ _ ({ dst := none, op := Op.store 40 (Operand.tmp 4) _, type := _, pos := _, after := _, guard := _ } :: _) _ _); refine stA _ rfl 40 40 _ _ rfl g4 _ #[.int .u64 sq, .slice A' ys.length c'] rfl rfl (Z0.out.ext S9) size_lg rfl (lg_one _ _ _ _) ?_; intro w11 hs11 k11 g11; have Z11 := Lib.hid k11; have E11 := Lib.hid ((E0.out.trans S9).grown g11 (fun q hq => by injection hq with hq; have := G4.out; omega)); have O11 := Lib.hid (RdL.keepG (Z0.out.ext S9) (O0.out.ext S9) g11); clear hs11 k11 g11))
        exact ret_rowT Tryd.results44 g4 _ _ _ _ rfl rfl Z11.out Tryd.underlying40 rfl size_lg ⟨A', c', ys, by have h := HF1.out; subst h; rfl, by have h := HF1.out; subst h; rfl, O11.out, Q0.out, E11.out⟩
    · have hkn : k = rs.length := by omega
      subst hkn
      have HF1 : Hid (F = (sq, acs ys, rs.length)) := by
        show _ = _
        rw [HF.out, List.drop_of_length_le (Nat.le_refl _)]
        simp [foldLg]
      have k1 : ¬ ((rs.length : Nat) : Int) < (rs.length : Int) := by omega
      go_wp2_with (first
        | ((with_reducible show wpList _ _ _ ({ dst := none, op := Op.store 40 (Operand.tmp 4) _, type := _, pos := _, after := _, guard := _ } :: _) _ _); refine stA _ rfl 40 40 _ _ rfl g4 _ #[.int .u64 sq, .slice A' ys.length c'] rfl rfl Z0.out size_lg rfl (lg_one _ _ _ _) ?_; intro w11 hs11 k11 g11; have Z11 := Lib.hid k11; have E11 := Lib.hid (E0.out.grown g11 (fun q hq => by injection hq with hq; have := G4.out; omega)); have O11 := Lib.hid (RdL.keepG Z0.out O0.out g11); clear hs11 k11 g11))
      exact ret_rowT Tryd.results44 g4 _ _ _ _ rfl rfl Z11.out Tryd.underlying40 rfl size_lg ⟨A', c', ys, by have h := HF1.out; subst h; rfl, by have h := HF1.out; subst h; rfl, O11.out, Q0.out, E11.out⟩
end Go.Proofs.YtkbjnlbbfapgdaaDoor

namespace Go.Proofs.YtkbjnlbbfapgdaaDoor
open Go.RowKit

/-- is a ledger right? -/
def rightL (l : List Ac) : Bool := l.all rightB && riseB l && decide (l.length ≤ 8)
set_option maxHeartbeats 8000000 in
theorem rlright_calls (seq : Nat) (A : Option Addr) (c : Nat) (xs : List Ax) (w : World) (hb : RdL w A xs) (hok : ∀ x ∈ xs, x.a.ok) (hl : xs.length ≤ 100000) :
    Calls Tryd.prog 25 #[lgA seq A xs.length c] w (RetV w (.bool (rightL (acs xs)))) := by
  have HB := Lib.hid hb
  have HOK := Lib.hid hok
  have HRI : Hid (∀ W, Ext w W → Calls Tryd.prog 32 #[.agg #[.int .u64 seq, .slice A xs.length c]] W (RetV W (.bool (riseB (acs xs))))) := fun W e => rrise_calls seq A c xs W (hb.ext e) (by omega)
  have HF : Hid (∀ k (h : k < xs.length), rightB xs[k].a = false → rightL (acs xs) = false) := fun k h hf => by
    unfold rightL
    have : (acs xs).all rightB = false := List.all_eq_false.2 ⟨xs[k].a, List.mem_map_of_mem (List.getElem_mem h), by rw [hf]; decide⟩
    rw [this]; rfl
  have HT : Hid ((∀ j (h : j < xs.length), rightB xs[j].a = true) → rightL (acs xs) = (riseB (acs xs) && decide (xs.length ≤ 8))) := fun h => by
    unfold rightL
    have : (acs xs).all rightB = true := List.all_eq_true.2 fun a ha => by
      obtain ⟨x, hx, rfl⟩ := List.mem_map.1 ha
      obtain ⟨j, hj, rfl⟩ := List.mem_iff_getElem.1 hx
      exact h j hj
    rw [this, acs_len]; rfl
  clear hb hok
  generalize rightL (acs xs) = R at *
  generalize riseB (acs xs) = RB at *
  unfold lgA
  go_enter Tryd.func25, Tryd.ntmps25
  go_wp2_with (first
    | ((with_reducible show wpList _ _ _ ({ dst := some 1, op := Op.box 40 _, type := _, pos := _, after := _, guard := _ } :: _) _ _); refine bxA _ rfl 40 _ rfl _ rfl ?_; intro g1 w1 hg hs1 k1 e1; have X1 := Lib.hid k1; have E1 := Lib.hid e1; clear hg hs1 k1 e1))
  go_loopw [3] (fun i wr => ∃ k : Nat, k ≤ xs.length ∧ i = .int .i64 k ∧ Ext w1 wr ∧ (∀ j (h : j < xs.length), j < k → rightB xs[j].a = true)) (fun i _ => xs.length - (intOf i).toNat)
  case atStart => exact ⟨0, by omega, rfl, Ext.refl _, fun j h hj => by omega⟩
  case round =>
    obtain ⟨k, hk, rfl, hE, hr⟩ := hrel
    have HR := Lib.hid hr
    have E2 := Lib.hid hE
    have F2 := Lib.hid (E1.out.trans hE)
    clear hr hE
    obtain ⟨a0, a1⟩ := lg_cells (X1.out.ext E2.out)
    by_cases hlt : k < xs.length
    · have HX := Lib.hid ((HB.out.each _ (List.getElem_mem hlt)).ext F2.out)
      have OX := Lib.hid (HOK.out _ (List.getElem_mem hlt))
      obtain ⟨ad, rfl, x0, x1, x2, x3, x4, x5, x6⟩ := (HB.out.rd.ext F2.out).seven hlt
      have k1 : (k : Int) < (xs.length : Int) := by omega
      have HFk := Lib.hid (HF.out k hlt)
      have HRk : Hid (rightB xs[k].a = true → ∀ j (h : j < xs.length), j < k + 1 → rightB xs[j].a = true) := fun h j hj hjk => by
        rcases Nat.lt_or_ge j k with h2 | h2
        · exact HR.out j hj h2
        · obtain rfl : j = k := by omega
          exact h
      generalize xs[k] = x at *
      have HRC : Hid (Calls Tryd.prog 13 #[(.agg #[.string x.a.ten, .int .u64 x.a.cap, .int .u64 x.a.used, .int .u64 x.a.bits, .int .u64 x.a.per, .slice x.AL x.a.ls.length x.cL, .slice x.AC x.a.cl.length x.cC])] wr (RetV wr (.bool (rightB x.a)))) := rright_calls x.a x.AL x.AC x.cL x.cC wr HX.out.rd OX.out
      generalize rightB x.a = b at *
      cases b with
      | false =>
        have HFF := Lib.hid (HFk.out rfl)
        clear HFk HRk
        go_wp2_with (first | (go_at_call 13; refine HRC.out.mono ?_; rintro e w5 ⟨rfl, e5⟩; have F5 := Lib.hid (F2.out.trans e5); clear e5 a0 a1))
        go_ret
        rw [HFF.out]
        exact ⟨rfl, F5.out⟩
      | true =>
        have HRR := Lib.hid (HRk.out rfl)
        clear HFk HRk
        go_wp2_with (first | (go_at_call 13; refine HRC.out.mono ?_; rintro e w5 ⟨rfl, e5⟩; have E5 := Lib.hid (E2.out.trans e5); clear e5 a0 a1))
        go_roundw
        case rel => exact ⟨k + 1, by omega, by go_num, E5.out, HRR.out⟩
        case measure => simp [intOf]; omega
    · have HFF := Lib.hid (HT.out (fun j h => HR.out j h (by omega)))
      have k1 : ¬ (k : Int) < (xs.length : Int) := by omega
      cases RB with
      | false =>
        go_wp2_with (first | (go_at_call 32; refine (HRI.out _ F2.out).mono ?_; rintro e w5 ⟨rfl, e5⟩; have F5 := Lib.hid (F2.out.trans e5); clear e5 a0 a1))
        go_ret
        rw [HFF.out]
        exact ⟨rfl, F5.out⟩
      | true =>
        go_wp2_with (first | (go_at_call 32; refine (HRI.out _ F2.out).mono ?_; rintro e w5 ⟨rfl, e5⟩; have F5 := Lib.hid (F2.out.trans e5); have EE := Lib.hid (E2.out.trans e5); obtain ⟨b0, b1⟩ := lg_cells (X1.out.ext EE.out); clear e5 a0 a1))
        go_ret
        rw [HFF.out]
        refine ⟨ret_boolW ?_, F5.out⟩
        rw [Bool.eq_iff_iff]
        simp
        try omega
end Go.Proofs.YtkbjnlbbfapgdaaDoor

namespace Go.Proofs.YtkbjnlbbfapgdaaDoor
open Go.RowKit

set_option maxHeartbeats 8000000 in
theorem lgright_calls (seq : Nat) (A : Option Addr) (c : Nat) (xs : List Ax) (w : World) (hb : RdL w A xs) (hok : ∀ x ∈ xs, x.a.ok) (hl : xs.length ≤ 100000) (hL : Laid w) :
    Calls Tryd.prog 45 #[lgA seq A xs.length c] w (RetV w (.bool (rightL (acs xs)))) := by
  have HB := Lib.hid hb
  have HOK := Lib.hid hok
  have HL := Lib.hid hL
  have H8 : Hid (8 < xs.length → rightL (acs xs) = false) := fun h => by
    unfold rightL
    rw [acs_len, decide_eq_false (by omega)]
    simp
  have HF : Hid (∀ k (h : k < xs.length), rightB xs[k].a = false → rightL (acs xs) = false) := fun k h hf => by
    unfold rightL
    have : (acs xs).all rightB = false := List.all_eq_false.2 ⟨xs[k].a, List.mem_map_of_mem (List.getElem_mem h), by rw [hf]; decide⟩
    rw [this]; rfl
  have HFR : Hid (∀ m (h : m + 1 < xs.length), ¬ cB xs[m].a.nm xs[m + 1].a.nm < 0 → rightL (acs xs) = false) := fun m h hn => by
    unfold rightL
    have : riseB (acs xs) = false := by
      cases hr : riseB (acs xs) with
      | false => rfl
      | true => exact absurd (by have := (riseB_adj _).1 hr m (by simpa using h); simpa [acs] using this) hn
    rw [this]; simp
  have HT : Hid (¬ 8 < xs.length → (∀ j (h : j < xs.length), rightB xs[j].a = true) → (∀ j (h : j + 1 < xs.length), cB xs[j].a.nm xs[j + 1].a.nm < 0) → rightL (acs xs) = true) := fun h8 h h2 => by
    unfold rightL
    have e1 : (acs xs).all rightB = true := List.all_eq_true.2 fun a ha => by
      obtain ⟨x, hx, rfl⟩ := List.mem_map.1 ha
      obtain ⟨j, hj, rfl⟩ := List.mem_iff_getElem.1 hx
      exact h j hj
    have e2 : riseB (acs xs) = true := (riseB_adj _).2 (fun j hj => by have := h2 j (by simpa using hj); simpa [acs] using this)
    rw [e1, e2, acs_len, decide_eq_true (by omega)]; rfl
  clear hb hok hL
  generalize rightL (acs xs) = R at *
  unfold lgA
  go_enter Tryd.func45, Tryd.ntmps45
  by_cases h8 : 8 < xs.length
  · have HFF := Lib.hid (H8.out h8)
    have q8 : decide ((8 : Int) < (xs.length : Int)) = true := decide_eq_true (by omega)
    clear h8
    go_wp2_with (first | ((with_reducible show wpList _ _ _ ({ dst := some 1, op := Op.box 40 _, type := _, pos := _, after := _, guard := _ } :: _) _ _); refine bxA _ rfl 40 _ rfl _ rfl ?_; intro g1 w1 hg hs1 k1 e1; have X1 := Lib.hid k1; have E1 := Lib.hid e1; obtain ⟨a0, a1⟩ := lg_cells k1; clear hg hs1 k1 e1))
    go_ret
    rw [HFF.out]
    exact ⟨rfl, E1.out⟩
  have q8 : decide ((8 : Int) < (xs.length : Int)) = false := decide_eq_false (by omega)
  have HT := Lib.hid (HT.out h8)
  clear h8 H8
  go_wp2_with (first | ((with_reducible show wpList _ _ _ ({ dst := some 1, op := Op.box 40 _, type := _, pos := _, after := _, guard := _ } :: _) _ _); refine bxA _ rfl 40 _ rfl _ rfl ?_; intro g1 w1 hg hs1 k1 e1; have X1 := Lib.hid k1; have E1 := Lib.hid e1; obtain ⟨a0, a1⟩ := lg_cells k1; clear hg hs1 k1 e1))
  clear a0 a1 q8
  go_loopw [3, 12] (fun _ i wr => ∃ k : Nat, k ≤ xs.length ∧ i = .int .i64 k ∧ Ext w1 wr ∧ (∀ j (h : j < xs.length), j < k → rightB xs[j].a = true) ∧ (∀ j (h : j + 1 < xs.length), j + 1 < k → cB xs[j].a.nm xs[j + 1].a.nm < 0)) (fun _ i _ => xs.length - (intOf i).toNat)
  case atStart => exact ⟨0, by omega, rfl, Ext.refl _, fun j h hj => by omega, fun j h hj => by omega⟩
  case round =>
    obtain ⟨k, hk, rfl, hE, hr, hr2⟩ := hrel
    have HR := Lib.hid hr
    have HR2 := Lib.hid hr2
    have E2 := Lib.hid hE
    have F2 := Lib.hid (E1.out.trans hE)
    clear hr hr2 hE
    by_cases hlt : k < xs.length
    · have HX := Lib.hid ((HB.out.each _ (List.getElem_mem hlt)).ext F2.out)
      have OX := Lib.hid (HOK.out _ (List.getElem_mem hlt))
      have k1 : (k : Int) < (xs.length : Int) := by omega
      have HFk := Lib.hid (HF.out k hlt)
      obtain ⟨ad, hA, x0, x1, x2, x3, x4, x5, x6⟩ := (HB.out.rd.ext F2.out).seven hlt
      have HRK : Hid (rightB xs[k].a = true → ∀ j (h : j < xs.length), j < k + 1 → rightB xs[j].a = true) := fun h j hj hjk => by
        rcases Nat.lt_or_ge j k with h2 | h2
        · exact HR.out j hj h2
        · obtain rfl : j = k := by omega
          exact h
      by_cases hk0 : k = 0
      · subst hA
        have q0 : decide (0 < k) = false := decide_eq_false (by omega)
        have HK0 := Lib.hid hk0
        clear hk0
        generalize xs[k] = x at *
        have HRC0 : Hid (∀ W, Ext wr W → Calls Tryd.prog 18 #[(.agg #[.string x.a.ten, .int .u64 x.a.cap, .int .u64 x.a.used, .int .u64 x.a.bits, .int .u64 x.a.per, .slice x.AL x.a.ls.length x.cL, .slice x.AC x.a.cl.length x.cC])] W (RetV W (.bool (rightB x.a)))) := fun W e => aright_calls x.a x.AL x.AC x.cL x.cC W (HX.out.ext e).rd OX.out (HL.out.ext (F2.out.trans e))
        generalize rightB x.a = b at *
        go_wp2_with (first | ((with_reducible show wpList _ _ _ ({ dst := some 4, op := Op.alloc 26, type := _, pos := _, after := _, guard := _ } :: _) _ _); refine alA _ rfl 26 rfl _ _ zero_acct ?_; intro g5 w5 hg hs1 k3 e3; have X5 := Lib.hid k3; have T5 := Lib.hid e3; have G5 := Lib.hid (Nat.le_of_eq hg); clear hg hs1 k3 e3 x0 x1 x2 x3 x4 x5 x6) | ((with_reducible show wpList _ _ _ ({ dst := none, op := Op.store 26 _ _, type := _, pos := _, after := _, guard := _ } :: _) _ _); refine stA _ rfl 26 26 _ _ rfl g5 _ (acV x.a x.AL x.cL x.AC x.cC) rfl rfl X5.out size_acct rfl (ac_one _ _ _ _ _) ?_; intro w6 hs k4 g4; have T6 := Lib.hid (show Ext wr w6 from T5.out.grown g4 (fun k hk => by injection hk with hk; have := G5.out; omega)); have X6 := Lib.hid k4; obtain ⟨y0, y1, y2, y3, y4, y5, y6⟩ := ac_cells k4; obtain ⟨a0, a1⟩ := lg_cells (X1.out.ext (E2.out.trans T6.out)); clear hs k4 g4))
        have HRC : Hid (∀ W, Ext w6 W → Calls Tryd.prog 18 #[(.agg #[.string x.a.ten, .int .u64 x.a.cap, .int .u64 x.a.used, .int .u64 x.a.bits, .int .u64 x.a.per, .slice x.AL x.a.ls.length x.cL, .slice x.AC x.a.cl.length x.cC])] W (RetV W (.bool b))) := fun W e => HRC0.out W (T6.out.trans e)
        have KS : Hid (∀ W, Ext w6 W → _) := fun W e => And.intro ((X1.out.ext ((E2.out.trans T6.out).trans e)).cell 1) (And.intro True.intro (ac_cells (X6.out.ext e)))
        cases b with
        | false =>
          have HFF := Lib.hid (HFk.out rfl)
          clear HFk HRK
          refine wp_region_quietE w6 (Ext.refl _) (by kernel_rfl) (by kernel_rfl) ?_
          repeat (first | (apply wpq_skip; (focus rfl); (try simp only [Act.put, List.setIfInBounds_toArray, List.set_cons_zero, List.set_cons_succ])) | ((with_reducible show QGoal _ _ _ _ ({ dst := _, op := Op.call { callee := Callee.value (Operand.func 18), args := _, argTypes := _ }, type := _, pos := _, after := _, guard := _ } :: _) _); apply wpq_call (hc := HRC.out); (focus rfl); (focus (intro W hW; go_simp; (first | done | with_reducible rfl))); (try simp only [Act.put, List.setIfInBounds_toArray, List.set_cons_zero, List.set_cons_succ])) | (apply wpq_take; (focus rfl); (focus (intro W hW; obtain ⟨b1, p0, ⟨y0, y1, y2, y3, y4, y5, y6⟩⟩ := KS.out W hW; go_simp; (first | done | with_reducible rfl))); (try simp only [Act.put, List.setIfInBounds_toArray, List.set_cons_zero, List.set_cons_succ])))
          refine wpq_nil ?_
          intro w9 S9
          go_wp2_with fail
          go_ret
          rw [HFF.out]
          exact ⟨rfl, (F2.out.trans T6.out).trans S9⟩
        | true =>
          have HRR := Lib.hid (HRK.out rfl)
          clear HFk HRK
          refine wp_region_quietE w6 (Ext.refl _) (by kernel_rfl) (by kernel_rfl) ?_
          repeat (first | (apply wpq_skip; (focus rfl); (try simp only [Act.put, List.setIfInBounds_toArray, List.set_cons_zero, List.set_cons_succ])) | ((with_reducible show QGoal _ _ _ _ ({ dst := _, op := Op.call { callee := Callee.value (Operand.func 18), args := _, argTypes := _ }, type := _, pos := _, after := _, guard := _ } :: _) _); apply wpq_call (hc := HRC.out); (focus rfl); (focus (intro W hW; go_simp; (first | done | with_reducible rfl))); (try simp only [Act.put, List.setIfInBounds_toArray, List.set_cons_zero, List.set_cons_succ])) | (apply wpq_take; (focus rfl); (focus (intro W hW; obtain ⟨b1, p0, ⟨y0, y1, y2, y3, y4, y5, y6⟩⟩ := KS.out W hW; go_simp; (first | done | with_reducible rfl))); (try simp only [Act.put, List.setIfInBounds_toArray, List.set_cons_zero, List.set_cons_succ])))
          refine wpq_nil ?_
          intro w9 S9
          go_wp2_with fail
          go_roundw
          case rel => exact ⟨k + 1, by omega, by go_num, (E2.out.trans T6.out).trans S9, HRR.out, fun j h hj => by have := HK0.out; omega⟩
          case measure => simp [intOf]; omega
      · obtain ⟨m, hkm⟩ : ∃ m, k = m + 1 := ⟨k - 1, by omega⟩
        have hm0 : m < xs.length := by omega
        have HFm : Hid (¬ cB xs[m].a.nm xs[k].a.nm < 0 → R = false) := by
          subst hkm
          exact Lib.hid (fun h => HFR.out m hlt (by omega))
        have HRM : Hid (cB xs[m].a.nm xs[k].a.nm < 0 → ∀ j (h : j + 1 < xs.length), j + 1 < k + 1 → cB xs[j].a.nm xs[j + 1].a.nm < 0) := fun h j hj hjm => by
          subst hkm
          rcases Nat.lt_or_ge (j + 1) (m + 1) with h2 | h2
          · exact HR2.out j hj h2
          · obtain rfl : j = m := by omega
            exact h
        have u1 : IntKind.i64.wrap ((k : Int) - 1) = (m : Int) := by rw [IntWalk.i64_in _ (by omega)]; omega
        have k2 : (m : Int) < (xs.length : Int) := by omega
        have HLQ := Lib.hid (less_cB xs[m].a.ten.data.toList xs[k].a.ten.data.toList)
        have HV : Hid (cB xs[m].a.nm xs[k].a.nm = cB xs[m].a.ten.data.toList xs[k].a.ten.data.toList) := rfl
        obtain ⟨ad2, hA2, hpc⟩ := (⟨HB.out.rd.ext F2.out, fun x hx => (HB.out.each x hx).ext F2.out⟩ : RdL wr A xs).cells_at hm0
        subst hA
        injection hA2 with hA2
        subst hA2
        have HPC := Lib.hid hpc
        clear hpc
        generalize cB xs[m].a.nm xs[k].a.nm = v at *
        rw [← HV.out] at HLQ
        rw [← ByteArray.toList_eq, ← ByteArray.toList_eq] at HLQ
        generalize xs[k] = x at *
        generalize xs[m] = y at *
        have HRC0 : Hid (∀ W, Ext wr W → Calls Tryd.prog 18 #[(.agg #[.string x.a.ten, .int .u64 x.a.cap, .int .u64 x.a.used, .int .u64 x.a.bits, .int .u64 x.a.per, .slice x.AL x.a.ls.length x.cL, .slice x.AC x.a.cl.length x.cC])] W (RetV W (.bool (rightB x.a)))) := fun W e => aright_calls x.a x.AL x.AC x.cL x.cC W (HX.out.ext e).rd OX.out (HL.out.ext (F2.out.trans e))
        generalize rightB x.a = b at *
        have q0 : decide (0 < k) = true := decide_eq_true (by omega)
        clear hkm hk0
        go_wp2_with (first | ((with_reducible show wpList _ _ _ ({ dst := some 4, op := Op.alloc 26, type := _, pos := _, after := _, guard := _ } :: _) _ _); refine alA _ rfl 26 rfl _ _ zero_acct ?_; intro g5 w5 hg hs1 k3 e3; have X5 := Lib.hid k3; have T5 := Lib.hid e3; have G5 := Lib.hid (Nat.le_of_eq hg); clear hg hs1 k3 e3 x0 x1 x2 x3 x4 x5 x6) | ((with_reducible show wpList _ _ _ ({ dst := none, op := Op.store 26 _ _, type := _, pos := _, after := _, guard := _ } :: _) _ _); refine stA _ rfl 26 26 _ _ rfl g5 _ (acV x.a x.AL x.cL x.AC x.cC) rfl rfl X5.out size_acct rfl (ac_one _ _ _ _ _) ?_; intro w6 hs k4 g4; have T6 := Lib.hid (show Ext wr w6 from T5.out.grown g4 (fun k hk => by injection hk with hk; have := G5.out; omega)); have X6 := Lib.hid k4; obtain ⟨y0, y1, y2, y3, y4, y5, y6⟩ := ac_cells k4; obtain ⟨a0, a1⟩ := lg_cells (X1.out.ext (E2.out.trans T6.out)); clear hs k4 g4))
        have HRC : Hid (∀ W, Ext w6 W → Calls Tryd.prog 18 #[(.agg #[.string x.a.ten, .int .u64 x.a.cap, .int .u64 x.a.used, .int .u64 x.a.bits, .int .u64 x.a.per, .slice x.AL x.a.ls.length x.cL, .slice x.AC x.a.cl.length x.cC])] W (RetV W (.bool b))) := fun W e => HRC0.out W (T6.out.trans e)
        have KS : Hid (∀ W, Ext w6 W → _) := fun W e => And.intro ((X1.out.ext ((E2.out.trans T6.out).trans e)).cell 1) (And.intro (HPC.out W (T6.out.trans e)).1 (ac_cells (X6.out.ext e)))
        by_cases hv : v < 0
        · have q : Op.bytesLess y.a.ten.toList x.a.ten.toList = true := by rw [HLQ.out]; exact decide_eq_true hv
          have HRM2 := Lib.hid (HRM.out hv)
          clear HFm HRM HLQ HV hv
          cases b with
          | false =>
            have HFF := Lib.hid (HFk.out rfl)
            clear HFk HRK
            refine wp_region_quietE w6 (Ext.refl _) (by kernel_rfl) (by kernel_rfl) ?_
            repeat (first | (apply wpq_skip; (focus rfl); (try simp only [Act.put, List.setIfInBounds_toArray, List.set_cons_zero, List.set_cons_succ])) | ((with_reducible show QGoal _ _ _ _ ({ dst := _, op := Op.call { callee := Callee.value (Operand.func 18), args := _, argTypes := _ }, type := _, pos := _, after := _, guard := _ } :: _) _); apply wpq_call (hc := HRC.out); (focus rfl); (focus (intro W hW; go_simp; (first | done | with_reducible rfl))); (try simp only [Act.put, List.setIfInBounds_toArray, List.set_cons_zero, List.set_cons_succ])) | (apply wpq_take; (focus rfl); (focus (intro W hW; obtain ⟨b1, p0, ⟨y0, y1, y2, y3, y4, y5, y6⟩⟩ := KS.out W hW; go_simp; (first | done | with_reducible rfl))); (try simp only [Act.put, List.setIfInBounds_toArray, List.set_cons_zero, List.set_cons_succ])))
            refine wpq_nil ?_
            intro w9 S9
            go_wp2_with fail
            go_ret
            rw [HFF.out]
            exact ⟨rfl, (F2.out.trans T6.out).trans S9⟩
          | true =>
            have HRR := Lib.hid (HRK.out rfl)
            clear HFk HRK
            refine wp_region_quietE w6 (Ext.refl _) (by kernel_rfl) (by kernel_rfl) ?_
            repeat (first | (apply wpq_skip; (focus rfl); (try simp only [Act.put, List.setIfInBounds_toArray, List.set_cons_zero, List.set_cons_succ])) | ((with_reducible show QGoal _ _ _ _ ({ dst := _, op := Op.call { callee := Callee.value (Operand.func 18), args := _, argTypes := _ }, type := _, pos := _, after := _, guard := _ } :: _) _); apply wpq_call (hc := HRC.out); (focus rfl); (focus (intro W hW; go_simp; (first | done | with_reducible rfl))); (try simp only [Act.put, List.setIfInBounds_toArray, List.set_cons_zero, List.set_cons_succ])) | (apply wpq_take; (focus rfl); (focus (intro W hW; obtain ⟨b1, p0, ⟨y0, y1, y2, y3, y4, y5, y6⟩⟩ := KS.out W hW; go_simp; (first | done | with_reducible rfl))); (try simp only [Act.put, List.setIfInBounds_toArray, List.set_cons_zero, List.set_cons_succ])))
            refine wpq_nil ?_
            intro w9 S9
            go_wp2_with fail
            go_roundw
            case rel => exact ⟨k + 1, by omega, by go_num, (E2.out.trans T6.out).trans S9, HRR.out, HRM2.out⟩
            case measure => simp [intOf]; omega
        · have q : Op.bytesLess y.a.ten.toList x.a.ten.toList = false := by rw [HLQ.out]; exact decide_eq_false hv
          have HFF := Lib.hid (HFm.out (by omega))
          clear HFm HRM HLQ HV HFk HRK hv
          refine wp_region_quietE w6 (Ext.refl _) (by kernel_rfl) (by kernel_rfl) ?_
          repeat (first | (apply wpq_skip; (focus rfl); (try simp only [Act.put, List.setIfInBounds_toArray, List.set_cons_zero, List.set_cons_succ])) | ((with_reducible show QGoal _ _ _ _ ({ dst := _, op := Op.call { callee := Callee.value (Operand.func 18), args := _, argTypes := _ }, type := _, pos := _, after := _, guard := _ } :: _) _); apply wpq_call (hc := HRC.out); (focus rfl); (focus (intro W hW; go_simp; (first | done | with_reducible rfl))); (try simp only [Act.put, List.setIfInBounds_toArray, List.set_cons_zero, List.set_cons_succ])) | (apply wpq_take; (focus rfl); (focus (intro W hW; obtain ⟨b1, p0, ⟨y0, y1, y2, y3, y4, y5, y6⟩⟩ := KS.out W hW; go_simp; (first | done | with_reducible rfl))); (try simp only [Act.put, List.setIfInBounds_toArray, List.set_cons_zero, List.set_cons_succ])))
          refine wpq_nil ?_
          intro w9 S9
          go_wp2_with fail
          go_ret
          rw [HFF.out]
          exact ⟨rfl, (F2.out.trans T6.out).trans S9⟩
    · have HFF := Lib.hid (HT.out (fun j h => HR.out j h (by omega)) (fun j h => HR2.out j h (by omega)))
      have k1 : ¬ (k : Int) < (xs.length : Int) := by omega
      go_wp2_with fail
      go_ret
      rw [HFF.out]
      exact ⟨rfl, F2.out⟩
end Go.Proofs.YtkbjnlbbfapgdaaDoor

namespace Go.Proofs.YtkbjnlbbfapgdaaDoor
open Go.RowKit

theorem eg_same : ∀ args w, (callFunc 19 args).run Tryd.prog w = .ok (.enter 19 args) w := enters_of Tryd.func19 (by kernel_rfl) rfl
set_option maxHeartbeats 8000000 in
theorem eqfunc_calls (A B : Option Addr) (c d : Nat) (xs ys : List Ax) (w : World) (hx : RdL w A xs) (hy : RdL w B ys) (hxo : ∀ x ∈ xs, x.a.ok) (hyo : ∀ x ∈ ys, x.a.ok) (hl : xs.length ≤ 100000) :
    Calls Tryd.prog 90 #[.slice A xs.length c, .slice B ys.length d, .func (.func 19) #[] #[]] w (RetV w (.bool (decide (acs xs = acs ys)))) := by
  have HX := Lib.hid hx
  have HY := Lib.hid hy
  have HXO := Lib.hid hxo
  have HYO := Lib.hid hyo
  clear hx hy hxo hyo
  by_cases hn : xs.length = ys.length
  case neg =>
    rw [decide_eq_false (fun h => hn (by have := congrArg List.length h; simpa using this))]
    have q2 : ((xs.length : Int) != (ys.length : Int)) = true := by simp; omega
    clear hn
    go_enter Tryd.func90, Tryd.ntmps90
    go_wp2_with fail
    go_ret
    exact ⟨rfl, Ext.refl _⟩
  case pos =>
    have HNN := Lib.hid hn
    have HT : Hid ((∀ j (h : j < xs.length) (h2 : j < ys.length), xs[j].a = ys[j].a) → decide (acs xs = acs ys) = true) := fun h => decide_eq_true (List.ext_getElem (by simpa using hn) (fun j h1 h2 => by simpa [acs] using h j (by simpa using h1) (by simpa using h2)))
    have HF : Hid (∀ j (h : j < xs.length) (h2 : j < ys.length), xs[j].a ≠ ys[j].a → decide (acs xs = acs ys) = false) := fun j h h2 hne => decide_eq_false (fun he => hne (by
      have := congrArg (fun l => l[j]?) he
      rw [acs_get h, acs_get h2] at this
      injection this))
    have q2 : ((xs.length : Int) != (ys.length : Int)) = false := by simp [hn]
    generalize decide (acs xs = acs ys) = R at *
    clear hn
    go_enter Tryd.func90, Tryd.ntmps90
    go_wp2_with fail
    clear q2
    have eg := eg_same
    go_loopw [17] (fun i wr => ∃ k : Nat, k ≤ xs.length ∧ i = .int .i64 k ∧ Ext w wr ∧ (∀ j (h : j < xs.length) (h2 : j < ys.length), j < k → xs[j].a = ys[j].a)) (fun i _ => xs.length - (intOf i).toNat)
    case atStart => exact ⟨0, by omega, rfl, Ext.refl _, fun j h h2 hj => by omega⟩
    case round =>
      obtain ⟨k, hk, rfl, hE, hr⟩ := hrel
      have HR := Lib.hid hr
      have E2 := Lib.hid hE
      clear hr hE
      by_cases hlt : k < xs.length
      · have hlt2 : k < ys.length := by have := HNN.out; omega
        have k1 : (k : Int) < (xs.length : Int) := by omega
        have k2 : (k : Int) < (ys.length : Int) := by omega
        obtain ⟨ad, hA, x0, x1, x2, x3, x4, x5, x6⟩ := (HX.out.rd.ext E2.out).seven hlt
        obtain ⟨bd, hB, hyc⟩ := (⟨HY.out.rd.ext E2.out, fun x hx => (HY.out.each x hx).ext E2.out⟩ : RdL wr B ys).cells_at hlt2
        have HYC := Lib.hid hyc
        have HXI := Lib.hid ((HX.out.each _ (List.getElem_mem hlt)).ext E2.out)
        have HYI := Lib.hid ((HY.out.each _ (List.getElem_mem hlt2)).ext E2.out)
        have hx5 := HXO.out _ (List.getElem_mem hlt)
        have hy5 := HYO.out _ (List.getElem_mem hlt2)
        have HFk := Lib.hid (HF.out k hlt hlt2)
        have HRk : Hid (xs[k].a = ys[k].a → ∀ j (h : j < xs.length) (h2 : j < ys.length), j < k + 1 → xs[j].a = ys[j].a) := fun h j hj hj2 hjk => by
          rcases Nat.lt_or_ge j k with h2 | h2
          · exact HR.out j hj hj2 h2
          · obtain rfl : j = k := by omega
            exact h
        subst hA hB
        generalize xs[k] = x at *
        generalize ys[k] = y at *
        have HSM : Hid (∀ W, Ext wr W → Calls Tryd.prog 19 #[(.agg #[.string x.a.ten, .int .u64 x.a.cap, .int .u64 x.a.used, .int .u64 x.a.bits, .int .u64 x.a.per, .slice x.AL x.a.ls.length x.cL, .slice x.AC x.a.cl.length x.cC]), (.agg #[.string y.a.ten, .int .u64 y.a.cap, .int .u64 y.a.used, .int .u64 y.a.bits, .int .u64 y.a.per, .slice y.AL y.a.ls.length y.cL, .slice y.AC y.a.cl.length y.cC])] W (RetV W (.bool (decide (x.a = y.a))))) := fun W e => asame_calls x.a y.a x.AL x.AC y.AL y.AC x.cL x.cC y.cL y.cC W (HXI.out.ext e).rd (HYI.out.ext e).rd hx5.2.2.2.2.2.2.2.1 hx5.2.2.2.2.2.2.2.2 hy5.2.2.2.2.2.2.2.1 hy5.2.2.2.2.2.2.2.2
        clear hyc hx5 hy5
        have HDB : Hid (∃ b, decide (x.a = y.a) = b) := ⟨_, rfl⟩
        obtain ⟨b, hb⟩ := HDB.out
        have HBE := Lib.hid hb
        rw [hb] at HSM
        clear hb HDB
        cases b with
        | true =>
          have HRR := Lib.hid (HRk.out (of_decide_eq_true HBE.out))
          clear HRk HFk
          go_wp2_with (first
            | ((with_reducible show wpList _ _ _ ({ dst := some 8, op := Op.alloc 26, type := _, pos := _, after := _, guard := _ } :: _) _ _); refine alA _ rfl 26 rfl _ _ zero_acct ?_; intro g8 w8 hg hs1 k3 e3; have X8 := Lib.hid k3; have T8 := Lib.hid e3; have G8 := Lib.hid (Nat.le_of_eq hg); clear hg hs1 k3 e3 x0 x1 x2 x3 x4 x5 x6)
            | ((with_reducible show wpList _ _ _ ({ dst := none, op := Op.store 26 (Operand.tmp 8) _, type := _, pos := _, after := _, guard := _ } :: _) _ _); refine stA _ rfl 26 26 _ _ rfl g8 _ (acV x.a x.AL x.cL x.AC x.cC) rfl rfl X8.out size_acct rfl (ac_one _ _ _ _ _) ?_; intro w9 hs k4 q9; have T9 := Lib.hid (show Ext wr w9 from T8.out.grown q9 (fun k hk => by injection hk with hk; have := G8.out; omega)); have X9 := Lib.hid k4; obtain ⟨y0, y1, y2, y3, y4, y5, y6⟩ := HYC.out _ T9.out; clear hs k4 q9)
            | ((with_reducible show wpList _ _ _ ({ dst := some 9, op := Op.alloc 26, type := _, pos := _, after := _, guard := _ } :: _) _ _); refine alA _ rfl 26 rfl _ _ zero_acct ?_; intro g9 w10 hg hs1 k3 e3; have Y10 := Lib.hid k3; have T10 := Lib.hid (T9.out.trans e3); have X10 := Lib.hid (X9.out.ext e3); have G9 := Lib.hid (show wr.heap.size ≤ g9 ∧ g8 < g9 from ⟨by have := T9.out.size; omega, by have := X9.out.lt; omega⟩); clear hg hs1 k3 e3 y0 y1 y2 y3 y4 y5 y6)
            | ((with_reducible show wpList _ _ _ ({ dst := none, op := Op.store 26 (Operand.tmp 9) _, type := _, pos := _, after := _, guard := _ } :: _) _ _); refine stA _ rfl 26 26 _ _ rfl g9 _ (acV y.a y.AL y.cL y.AC y.cC) rfl rfl Y10.out size_acct rfl (ac_one _ _ _ _ _) ?_; intro w11 hs k4 q11; have T11 := Lib.hid (show Ext wr w11 from T10.out.grown q11 (fun k hk => by injection hk with hk; have := G9.out; omega)); have X11 := Lib.hid (X10.out.grown q11 (by have := G9.out; intro hh; injection hh; omega)); obtain ⟨x0, x1, x2, x3, x4, x5, x6⟩ := ac_cells X11.out; obtain ⟨y0, y1, y2, y3, y4, y5, y6⟩ := ac_cells k4; clear hs k4 q11)
            | (go_at_fn 19; refine (HSM.out _ T11.out).mono ?_; rintro e w12 ⟨rfl, e12⟩; have E12 := Lib.hid (E2.out.trans (T11.out.trans e12)); clear e12 x0 x1 x2 x3 x4 x5 x6 y0 y1 y2 y3 y4 y5 y6))
          go_roundw
          case rel => exact ⟨k + 1, by omega, by go_num, E12.out, HRR.out⟩
          case measure => simp [intOf]; omega
        | false =>
          have HFF := Lib.hid (HFk.out (of_decide_eq_false HBE.out))
          clear HRk HFk
          go_wp2_with (first
            | ((with_reducible show wpList _ _ _ ({ dst := some 8, op := Op.alloc 26, type := _, pos := _, after := _, guard := _ } :: _) _ _); refine alA _ rfl 26 rfl _ _ zero_acct ?_; intro g8 w8 hg hs1 k3 e3; have X8 := Lib.hid k3; have T8 := Lib.hid e3; have G8 := Lib.hid (Nat.le_of_eq hg); clear hg hs1 k3 e3 x0 x1 x2 x3 x4 x5 x6)
            | ((with_reducible show wpList _ _ _ ({ dst := none, op := Op.store 26 (Operand.tmp 8) _, type := _, pos := _, after := _, guard := _ } :: _) _ _); refine stA _ rfl 26 26 _ _ rfl g8 _ (acV x.a x.AL x.cL x.AC x.cC) rfl rfl X8.out size_acct rfl (ac_one _ _ _ _ _) ?_; intro w9 hs k4 q9; have T9 := Lib.hid (show Ext wr w9 from T8.out.grown q9 (fun k hk => by injection hk with hk; have := G8.out; omega)); have X9 := Lib.hid k4; obtain ⟨y0, y1, y2, y3, y4, y5, y6⟩ := HYC.out _ T9.out; clear hs k4 q9)
            | ((with_reducible show wpList _ _ _ ({ dst := some 9, op := Op.alloc 26, type := _, pos := _, after := _, guard := _ } :: _) _ _); refine alA _ rfl 26 rfl _ _ zero_acct ?_; intro g9 w10 hg hs1 k3 e3; have Y10 := Lib.hid k3; have T10 := Lib.hid (T9.out.trans e3); have X10 := Lib.hid (X9.out.ext e3); have G9 := Lib.hid (show wr.heap.size ≤ g9 ∧ g8 < g9 from ⟨by have := T9.out.size; omega, by have := X9.out.lt; omega⟩); clear hg hs1 k3 e3 y0 y1 y2 y3 y4 y5 y6)
            | ((with_reducible show wpList _ _ _ ({ dst := none, op := Op.store 26 (Operand.tmp 9) _, type := _, pos := _, after := _, guard := _ } :: _) _ _); refine stA _ rfl 26 26 _ _ rfl g9 _ (acV y.a y.AL y.cL y.AC y.cC) rfl rfl Y10.out size_acct rfl (ac_one _ _ _ _ _) ?_; intro w11 hs k4 q11; have T11 := Lib.hid (show Ext wr w11 from T10.out.grown q11 (fun k hk => by injection hk with hk; have := G9.out; omega)); have X11 := Lib.hid (X10.out.grown q11 (by have := G9.out; intro hh; injection hh; omega)); obtain ⟨x0, x1, x2, x3, x4, x5, x6⟩ := ac_cells X11.out; obtain ⟨y0, y1, y2, y3, y4, y5, y6⟩ := ac_cells k4; clear hs k4 q11)
            | (go_at_fn 19; refine (HSM.out _ T11.out).mono ?_; rintro e w12 ⟨rfl, e12⟩; have E12 := Lib.hid (E2.out.trans (T11.out.trans e12)); clear e12 x0 x1 x2 x3 x4 x5 x6 y0 y1 y2 y3 y4 y5 y6))
          go_ret
          rw [HFF.out]
          exact ⟨rfl, E12.out⟩
      · have HFF := Lib.hid (HT.out (fun j h h2 => HR.out j h h2 (by omega)))
        have k1 : ¬ (k : Int) < (xs.length : Int) := by omega
        go_wp2_with fail
        go_ret
        rw [HFF.out]
        exact ⟨rfl, E2.out⟩

set_option maxHeartbeats 8000000 in
theorem lgsame_calls (sa sb : Nat) (A B : Option Addr) (c d : Nat) (xs ys : List Ax) (w : World) (hx : RdL w A xs) (hy : RdL w B ys) (hxo : ∀ x ∈ xs, x.a.ok) (hyo : ∀ x ∈ ys, x.a.ok) (hl : xs.length ≤ 100000) :
    Calls Tryd.prog 46 #[lgA sa A xs.length c, lgA sb B ys.length d] w (RetV w (.bool (decide (sa = sb ∧ acs xs = acs ys)))) := by
  have HEQ : Hid (∀ W, Ext w W → Calls Tryd.prog 90 #[.slice A xs.length c, .slice B ys.length d, .func (.func 19) #[] #[]] W (RetV W (.bool (decide (acs xs = acs ys))))) := fun W e => eqfunc_calls A B c d xs ys W (hx.ext e) (hy.ext e) hxo hyo hl
  have HD : Hid (decide (sa = sb ∧ acs xs = acs ys) = (decide (sa = sb) && decide (acs xs = acs ys))) := by show _ = _; rw [Bool.decide_and]
  rw [HD.out]
  clear hx hy hxo hyo HD
  generalize decide (acs xs = acs ys) = R at *
  unfold lgA
  by_cases hs : sa = sb
  · rw [decide_eq_true hs]
    have q1 : ((sa : Int) == (sb : Int)) = true := by simp [hs]
    clear hs
    go_enter Tryd.func46, Tryd.ntmps46
    go_wp2_with (first
      | ((with_reducible show wpList _ _ _ ({ dst := some 2, op := Op.box 40 _, type := _, pos := _, after := _, guard := _ } :: _) _ _); refine bxA _ rfl 40 _ rfl _ rfl ?_; intro g1 w1 hg hs1 k1 e1; have X0 := Lib.hid k1; have E0 := Lib.hid e1; clear hg hs1 k1 e1)
      | ((with_reducible show wpList _ _ _ ({ dst := some 3, op := Op.box 40 _, type := _, pos := _, after := _, guard := _ } :: _) _ _); refine bxA _ rfl 40 _ rfl _ rfl ?_; intro g3 w3 hg hs1 k1 e1; have Y1 := Lib.hid k1; have X1 := Lib.hid (X0.out.ext e1); have E1 := Lib.hid (E0.out.trans e1); obtain ⟨a0, a1⟩ := lg_cells X1.out; obtain ⟨c0, c1⟩ := lg_cells k1; clear hg hs1 k1 e1 X0 E0)
      | (go_at_call 90; refine (HEQ.out _ E1.out).mono ?_; rintro e w4 ⟨rfl, e4⟩; have E4 := Lib.hid (E1.out.trans e4); clear e4 a0 a1 c0 c1))
    go_ret
    exact ⟨by simp, E4.out⟩
  · rw [decide_eq_false hs]
    have q1 : ((sa : Int) == (sb : Int)) = false := by simp; omega
    clear hs
    go_enter Tryd.func46, Tryd.ntmps46
    go_wp2_with (first
      | ((with_reducible show wpList _ _ _ ({ dst := some 2, op := Op.box 40 _, type := _, pos := _, after := _, guard := _ } :: _) _ _); refine bxA _ rfl 40 _ rfl _ rfl ?_; intro g1 w1 hg hs1 k1 e1; have X0 := Lib.hid k1; have E0 := Lib.hid e1; clear hg hs1 k1 e1)
      | ((with_reducible show wpList _ _ _ ({ dst := some 3, op := Op.box 40 _, type := _, pos := _, after := _, guard := _ } :: _) _ _); refine bxA _ rfl 40 _ rfl _ rfl ?_; intro g3 w3 hg hs1 k1 e1; have Y1 := Lib.hid k1; have X1 := Lib.hid (X0.out.ext e1); have E1 := Lib.hid (E0.out.trans e1); obtain ⟨a0, a1⟩ := lg_cells X1.out; obtain ⟨c0, c1⟩ := lg_cells k1; clear hg hs1 k1 e1 X0 E0))
    go_ret
    exact ⟨by simp, E1.out⟩
end Go.Proofs.YtkbjnlbbfapgdaaDoor

namespace Go.Proofs.YtkbjnlbbfapgdaaDoor
open Go.RowKit Go.ChangeShapes Go.WideShapes Go.ChangeAt Go.Deep

instance : Inhabited Rc := ⟨⟨0, 0, ByteArray.empty, 0, 0, 0⟩⟩
section gen
variable {H : Type} {enc : TypeId × Value → H} {w : World} {b0 : Nat} {v : Value} {d : DataW H} {p : List MemPlace}
theorem arg_rcs (o : Value.okWide Tryd.prog w .any b0 59 v) (h : DataW.Trod enc Tryd.prog w 0 (fun _ => true) true 59 v d p) :
    ∃ A c, ∃ rs : List Rc, v = .slice A rs.length c ∧ RdE rcs w A rs ∧ (∀ r ∈ rs, r.ok ∧ r.ten.size ≤ 9223372036854775807) ∧ rs.length ≤ c ∧ c ≤ 9223372036854775807 := by
  obtain ⟨a0, len0, cap0, rfl⟩ := okWide_slice Tryd.underlying59 o
  obtain ⟨fuel, hf⟩ := h
  obtain ⟨A, c, ys, e1, r1, r2, r3, r4, r5⟩ := cells_elems rcs (fun r => r.ok ∧ r.ten.size ≤ 9223372036854775807) rcs_len (by decide) Tryd.underlying59 c_rec cells_rc hf
  simp [Value.cells] at e1
  obtain ⟨rfl, rfl, rfl⟩ := e1
  exact ⟨a0, cap0, ys, rfl, r1, r2, r3, r4⟩
end gen

def largeRB (rs : List Rc) : Bool := (rs.take 60).any (fun r => decide (100 < r.ten.size)) || decide (60 < rs.length)
set_option maxHeartbeats 8000000 in
theorem rlargeR_calls (A : Option Addr) (c : Nat) (rs : List Rc) (w : World) (hb : RdE rcs w A rs) (hl : rs.length ≤ 9223372036854775807) (hz : ∀ r ∈ rs, r.ten.size ≤ 9223372036854775807) :
    Calls Tryd.prog 43 #[.slice A rs.length c] w fun e w' => e = .returned (.bool (largeRB rs)) ∧ w = w' := by
  have HB := Lib.hid hb
  have HZ := Lib.hid hz
  have HT : Hid (∀ k (h : k < rs.length), k < 60 → 100 < rs[k].ten.size → largeRB rs = true) := fun k h h6 hk => by
    unfold largeRB
    have : (rs.take 60).any (fun r => decide (100 < r.ten.size)) = true := List.any_eq_true.2 ⟨rs[k], List.mem_take_iff_getElem.2 ⟨k, by omega, rfl⟩, decide_eq_true hk⟩
    rw [this]; rfl
  have HF : Hid ((∀ j (h : j < rs.length), j < 60 → rs[j].ten.size ≤ 100) → largeRB rs = decide (60 < rs.length)) := fun h => by
    unfold largeRB
    have : (rs.take 60).any (fun r => decide (100 < r.ten.size)) = false := List.any_eq_false.2 fun r hr => by
      obtain ⟨j, hj, rfl⟩ := List.mem_take_iff_getElem.1 hr
      have := h j (by omega) (by omega)
      simp; omega
    rw [this]; rfl
  clear hb hz
  generalize largeRB rs = R at *
  go_enter Tryd.func43, Tryd.ntmps43
  go_wp2_with fail
  go_loopw [3] (fun i wr => ∃ k : Nat, k ≤ rs.length ∧ k ≤ 60 ∧ i = .int .i64 k ∧ w = wr ∧ (∀ j (h : j < rs.length), j < k → rs[j].ten.size ≤ 100)) (fun i _ => rs.length - (intOf i).toNat)
  case atStart => exact ⟨0, by omega, by omega, rfl, rfl, fun j h hj => by omega⟩
  case round =>
    obtain ⟨k, hk, hk6, rfl, rfl, hr⟩ := hrel
    have HR := Lib.hid hr
    clear hr
    by_cases hlt : k < rs.length
    · have k1 : (k : Int) < (rs.length : Int) := by omega
      by_cases h6 : k < 60
      · have k6 : decide ((k : Int) < 60) = true := decide_eq_true (by omega)
        obtain ⟨ad, rfl, r0, r1, r2, r3, r4, r5⟩ := HB.out.sixR hlt
        have hz2 := HZ.out _ (List.getElem_mem hlt)
        have HTk := Lib.hid (HT.out k hlt h6)
        have HRk : Hid (rs[k].ten.size ≤ 100 → ∀ j (h : j < rs.length), j < k + 1 → rs[j].ten.size ≤ 100) := fun h j hj hjk => by
          rcases Nat.lt_or_ge j k with h2 | h2
          · exact HR.out j hj h2
          · obtain rfl : j = k := by omega
            exact h
        generalize rs[k] = r at *
        by_cases hq : 100 < r.ten.size
        · have HFF := Lib.hid (HTk.out hq)
          have q : decide ((100 : Int) < (r.ten.size : Int)) = true := decide_eq_true (by omega)
          clear HTk HRk
          go_wp2_with fail
          go_ret
          rw [HFF.out]
          exact ⟨rfl, by simp⟩
        · have HRR := Lib.hid (HRk.out (by omega))
          have q : decide ((100 : Int) < (r.ten.size : Int)) = false := decide_eq_false (by omega)
          clear HTk HRk
          go_wp2_with fail
          go_roundw
          case rel => exact ⟨k + 1, by omega, by omega, by go_num, (by first | rfl | trivial), HRR.out⟩
          case measure => simp [intOf]; omega
      · have k6 : decide ((k : Int) < 60) = false := decide_eq_false (by omega)
        have HFF := Lib.hid (HF.out (fun j h hj => HR.out j h (by omega)))
        go_wp2_with fail
        go_ret
        rw [HFF.out]
        refine ⟨ret_boolW ?_, by simp⟩
        rw [Bool.eq_iff_iff]
        simp
        try omega
    · have k1 : ¬ (k : Int) < (rs.length : Int) := by omega
      have HFF := Lib.hid (HF.out (fun j h hj => HR.out j h (by omega)))
      go_wp2_with fail
      go_ret
      rw [HFF.out]
      refine ⟨ret_boolW ?_, by simp⟩
      rw [Bool.eq_iff_iff]
      simp
      try omega
theorem largeRB_ok {rs : List Rc} (h : largeRB rs = false) (hr : ∀ r ∈ rs, r.ok) : rs.length ≤ 60 ∧ ∀ r ∈ rs, r.ok ∧ r.ten.size ≤ 1000000 := by
  unfold largeRB at h
  rw [Bool.or_eq_false_iff, decide_eq_false_iff_not] at h
  obtain ⟨h1, h2⟩ := h
  refine ⟨by omega, fun r hm => ⟨hr r hm, ?_⟩⟩
  rw [List.take_of_length_le (by omega)] at h1
  have := List.any_eq_false.1 h1 r hm
  simp at this; omega
end Go.Proofs.YtkbjnlbbfapgdaaDoor

namespace Go.Proofs.YtkbjnlbbfapgdaaDoor
open Go.RowKit

theorem rec_ten {r : Rc} (h : recE r.seq r.kind r.ten r.lease r.n r.bits = 0) : tenantB r.ten.data.toList = true := by
  unfold recE at h
  split at h
  · cases h
  split at h
  · cases h
  · rename_i h1 h2; simpa using h2
theorem acNone_right {s : ByteArray} (h : tenantB s.data.toList = true) : rightB (acNone s) = true := by
  rw [rightB_iff _ (by show 0 < _; decide)]
  exact ⟨⟨trivial, by simp [acNone, sumL]⟩, rfl, h, (by decide +kernel : plainB 0 = true), by show 0 ≤ _; decide, rfl⟩
theorem com_right {l : List Ac} {seq : Nat} {r : Rc} (hu : ∀ a ∈ l, a.used < 18446744073709551616 ∧ a.cap < 18446744073709551616) (h : rightL l = true) (hc : chkL seq l r = 0) : rightL (comL l r) = true := by
  unfold rightL at h ⊢
  simp only [Bool.and_eq_true, decide_eq_true_eq] at h ⊢
  obtain ⟨⟨h1, h2⟩, h3⟩ := h
  have hr := (riseB_iff _).1 h2
  obtain ⟨c1, c2, c3⟩ := chkL_zero hc
  refine ⟨⟨List.all_eq_true.2 fun a ha => ?_, (riseB_iff _).2 (com_rises hr r)⟩, ?_⟩
  · rcases put_mem ha with rfl | ha
    · have key : (accOf l r.ten).used < 18446744073709551616 ∧ (accOf l r.ten).cap < 18446744073709551616 ∧ rightB (accOf l r.ten) = true := by
        rcases acc_mem l r.ten with hm | hm
        · exact ⟨(hu _ hm).1, (hu _ hm).2, List.all_eq_true.1 h1 _ hm⟩
        · rw [hm]; exact ⟨by show 0 < _; decide, by show 0 < _; decide, acNone_right (rec_ten (chk_zero c3).1)⟩
      exact stays_right key.1 key.2.1 key.2.2 c3
    · exact List.all_eq_true.1 h1 _ ha
  · unfold comL; rw [put_len, com_nm]
    cases ht : thereB l r.ten.data.toList with
    | true => simpa using h3
    | false => have := c2 ht; simp; omega
theorem appA_cap {a : Ac} {r : Rc} (h : a.cap < 18446744073709551616) (hn : r.n < 18446744073709551616) : (appA a r).cap < 18446744073709551616 := by
  unfold appA
  repeat' split
  all_goals simp only
  all_goals omega
theorem com_uc {l : List Ac} {r : Rc} (hu : ∀ a ∈ l, a.used < 18446744073709551616 ∧ a.cap < 18446744073709551616) (hn : r.n < 18446744073709551616) : ∀ a ∈ comL l r, a.used < 18446744073709551616 ∧ a.cap < 18446744073709551616 := by
  intro a ha
  rcases put_mem ha with rfl | ha
  · rcases acc_mem l r.ten with hm | hm
    · exact ⟨appA_used (hu _ hm).1, appA_cap (hu _ hm).2 hn⟩
    · rw [hm]; exact ⟨appA_used (by show 0 < _; decide), appA_cap (by show 0 < _; decide) hn⟩
  · exact hu a ha
theorem fold_right (rs : List Rc) {l : List Ac} {seq : Nat} (hu : ∀ a ∈ l, a.used < 18446744073709551616 ∧ a.cap < 18446744073709551616) (hn : ∀ r ∈ rs, r.n < 18446744073709551616) (h : rightL l = true) : rightL (foldLg seq l rs).2.1 = true := by
  induction rs generalizing l seq with
  | nil => exact h
  | cons r rs ih =>
    unfold foldLg
    split
    · rename_i hc
      exact ih (com_uc hu (hn r (List.mem_cons_self ..))) (fun x hx => hn x (List.mem_cons_of_mem _ hx)) (com_right hu h hc)
    · exact h
theorem fold_rises (rs : List Rc) {l : List Ac} {seq : Nat} (h : Rises l) : Rises (foldLg seq l rs).2.1 := by
  induction rs generalizing l seq with
  | nil => exact h
  | cons r rs ih =>
    unfold foldLg
    split
    · exact ih (com_rises h r)
    · exact h
theorem fold_len (rs : List Rc) (l : List Ac) (seq : Nat) : (foldLg seq l rs).2.1.length ≤ l.length + rs.length := by
  induction rs generalizing l seq with
  | nil => simp [foldLg]
  | cons r rs ih =>
    unfold foldLg
    split
    · have := ih (comL l r) r.seq
      have := com_len1 l r
      simp only [List.length_cons]; omega
    · simp
end Go.Proofs.YtkbjnlbbfapgdaaDoor

namespace Go.Proofs.YtkbjnlbbfapgdaaDoor
open Go.RowKit

set_option maxHeartbeats 16000000 in
theorem ledgerFolds_walk (seq : Nat) (A : Option Addr) (c : Nat) (xs : List Ax) (R : Option Addr) (rc : Nat) (rs : List Rc) (w : World) (hs : seq < 18446744073709551616) (hb : RdL w A xs) (hcl : xs.length ≤ c) (hcm : c ≤ 9223372036854775807) (hR : RdE rcs w R rs) (hrs : ∀ r ∈ rs, r.ok ∧ r.ten.size ≤ 9223372036854775807) (hrl : rs.length ≤ rc) (hrm : rc ≤ 9223372036854775807) (hL : Laid w) :
    Calls Tryd.prog 11 #[(.agg #[.int .u64 seq, .slice A xs.length c]), .slice R rs.length rc] w (RetV w (.bool true)) := by
  have HL := Lib.hid hL
  have HLA : Hid (∀ W, Ext w W → Calls Tryd.prog 22 #[(.agg #[.int .u64 seq, .slice A xs.length c])] W (RetV W (.bool (largeL (acs xs))))) := fun W e => rlargeL_calls seq A c xs W (hb.ext e) (by omega)
  have HLR : Hid (∀ W, Ext w W → Calls Tryd.prog 43 #[.slice R rs.length rc] W (fun e w' => e = .returned (.bool (largeRB rs)) ∧ W = w')) := fun W e => rlargeR_calls R rc rs W (hR.ext e) (by omega) (fun r hr => (hrs r hr).2)
  have HRI : Hid (∀ W, Ext w W → Calls Tryd.prog 32 #[(.agg #[.int .u64 seq, .slice A xs.length c])] W (RetV W (.bool (riseB (acs xs))))) := fun W e => rrise_calls seq A c xs W (hb.ext e) (by omega)
  have HAW : Hid (∀ W, Ext w W → Calls Tryd.prog 33 #[] W (RetV W (.bool true))) := fun W e => awake16 W (HL.out.ext e)
  by_cases h1 : largeL (acs xs) = true
  · rw [h1] at HLA
    clear h1 hb hR hrs
    go_enter Tryd.func11, Tryd.ntmps11
    go_wp2_with (first | ((with_reducible show wpList _ _ _ ({ dst := some 2, op := Op.box 40 _, type := _, pos := _, after := _, guard := _ } :: _) _ _); refine bxA _ rfl 40 _ rfl _ rfl ?_; intro g1 w1 hg hs1 k1 e1; have X1 := Lib.hid k1; have E1 := Lib.hid e1; obtain ⟨a0, a1⟩ := lg_cells k1; clear hg hs1 k1 e1) | (go_at_call 22; refine (HLA.out _ E1.out).mono ?_; rintro e w2 ⟨rfl, e2⟩; have X2 := Lib.hid (X1.out.ext e2); have E2 := Lib.hid (E1.out.trans e2); clear e2 a0 a1; obtain ⟨a0, a1⟩ := lg_cells X2.out) | (go_at_call 33; refine (HAW.out _ E2.out).mono ?_; rintro e w9 ⟨rfl, e9⟩; have E9 := Lib.hid (Ext.trans E2.out e9); clear e9))
    go_ret
    exact ⟨rfl, E9.out⟩
  rw [(Bool.not_eq_true _).mp h1] at HLA
  by_cases h2 : largeRB rs = true
  · rw [h2] at HLR
    clear h1 h2 hb hR hrs
    go_enter Tryd.func11, Tryd.ntmps11
    go_wp2_with (first | ((with_reducible show wpList _ _ _ ({ dst := some 2, op := Op.box 40 _, type := _, pos := _, after := _, guard := _ } :: _) _ _); refine bxA _ rfl 40 _ rfl _ rfl ?_; intro g1 w1 hg hs1 k1 e1; have X1 := Lib.hid k1; have E1 := Lib.hid e1; obtain ⟨a0, a1⟩ := lg_cells k1; clear hg hs1 k1 e1) | (go_at_call 22; refine (HLA.out _ E1.out).mono ?_; rintro e w2 ⟨rfl, e2⟩; have X2 := Lib.hid (X1.out.ext e2); have E2 := Lib.hid (E1.out.trans e2); clear e2 a0 a1; obtain ⟨a0, a1⟩ := lg_cells X2.out) | (go_at_call 43; refine (HLR.out _ E2.out).mono ?_; rintro e wl ⟨rfl, rfl⟩) | (go_at_call 33; refine (HAW.out _ E2.out).mono ?_; rintro e w9 ⟨rfl, e9⟩; have E9 := Lib.hid (Ext.trans E2.out e9); clear e9))
    go_ret
    exact ⟨rfl, E9.out⟩
  rw [(Bool.not_eq_true _).mp h2] at HLR
  by_cases h3f : riseB (acs xs) = false
  · rw [h3f] at HRI
    clear h1 h2 h3f hb hR hrs
    go_enter Tryd.func11, Tryd.ntmps11
    go_wp2_with (first | ((with_reducible show wpList _ _ _ ({ dst := some 2, op := Op.box 40 _, type := _, pos := _, after := _, guard := _ } :: _) _ _); refine bxA _ rfl 40 _ rfl _ rfl ?_; intro g1 w1 hg hs1 k1 e1; have X1 := Lib.hid k1; have E1 := Lib.hid e1; obtain ⟨a0, a1⟩ := lg_cells k1; clear hg hs1 k1 e1) | (go_at_call 22; refine (HLA.out _ E1.out).mono ?_; rintro e w2 ⟨rfl, e2⟩; have X2 := Lib.hid (X1.out.ext e2); have E2 := Lib.hid (E1.out.trans e2); clear e2 a0 a1; obtain ⟨a0, a1⟩ := lg_cells X2.out) | (go_at_call 43; refine (HLR.out _ E2.out).mono ?_; rintro e wl ⟨rfl, rfl⟩) | (go_at_call 32; refine (HRI.out _ E2.out).mono ?_; rintro e w3 ⟨rfl, e3⟩; have X3 := Lib.hid (X2.out.ext e3); have E3 := Lib.hid (E2.out.trans e3); clear e3 a0 a1; obtain ⟨a0, a1⟩ := lg_cells X3.out) | (go_at_call 33; refine (HAW.out _ E3.out).mono ?_; rintro e w9 ⟨rfl, e9⟩; have E9 := Lib.hid (Ext.trans E3.out e9); clear e9))
    go_ret
    exact ⟨rfl, E9.out⟩
  have h3 : riseB (acs xs) = true := by simpa using h3f
  clear h3f
  rw [h3] at HRI
  have hri := (riseB_iff _).1 h3
  obtain ⟨hn12, hoks⟩ := largeL_ok ((Bool.not_eq_true _).mp h1) hb
  obtain ⟨hr60, hrok⟩ := largeRB_ok ((Bool.not_eq_true _).mp h2) (fun r hr => (hrs r hr).1)
  have hok : ∀ x ∈ xs, x.a.ok := fun x hx => (hoks x hx).1
  have hlens : ∀ x ∈ xs, x.a.ls.length ≤ 1000 ∧ x.a.cl.length ≤ 1000 := fun x hx => by have := hoks x hx; omega
  obtain ⟨F, hF⟩ : ∃ F, F = foldLg seq (acs xs) rs := ⟨_, rfl⟩
  have hFl : F.2.1.length ≤ 100 := by have := fold_len rs (acs xs) seq; rw [← hF, acs_len] at this; omega
  have hFr : rightL (acs xs) = true → rightL F.2.1 = true := fun h => by
    rw [hF]
    exact fold_right rs (fun a ha => by obtain ⟨x, hx, rfl⟩ := List.mem_map.1 ha; exact ⟨(hok x hx).2.2.1, (hok x hx).2.1⟩) (fun r hr => (hrok r hr).1.2.2.1) h
  obtain ⟨SQ, FL, FN⟩ := F
  have HFO : Hid (∀ W, Ext w W → Calls Tryd.prog 41 #[(.agg #[.int .u64 seq, .slice A xs.length c]), .slice R rs.length rc] W (fun e w' => ∃ A' c', ∃ ys : List Ax, e = .returned (.tuple #[(.agg #[.int .u64 SQ, .slice A' ys.length c']), .int .i64 (FN : Nat)]) ∧ acs ys = FL ∧ OwnL w' W.heap.size A' c' ys ∧ Ext W w')) := fun W e => by
    have h := lgfold_calls seq A c xs R rc rs W (hb.ext e) hok (by omega) hri hs hlens (hR.ext e) hrok (by omega) (HL.out.ext e)
    rw [← hF] at h
    exact h
  have HRF : Hid (∀ W, Ext w W → Calls Tryd.prog 44 #[(.agg #[.int .u64 seq, .slice A xs.length c]), .slice R rs.length rc] W (fun e w' => ∃ A' c', ∃ ys : List Ax, e = .returned (.tuple #[(.agg #[.int .u64 SQ, .slice A' ys.length c']), .int .i64 (FN : Nat)]) ∧ acs ys = FL ∧ RdL w' A' ys ∧ (∀ y ∈ ys, y.a.ok) ∧ Ext W w')) := fun W e => by
    have h := rlfold_calls seq A c xs R rc rs W (hb.ext e) hok (by omega) hri hs hlens (hR.ext e) hrok (by omega)
    rw [← hF] at h
    exact h
  have HRL0 : Hid (∀ W, Ext w W → Calls Tryd.prog 25 #[(.agg #[.int .u64 seq, .slice A xs.length c])] W (RetV W (.bool (rightL (acs xs))))) := fun W e => rlright_calls seq A c xs W (hb.ext e) hok (by omega)
  have HFL := Lib.hid hFl
  have HFR := Lib.hid hFr
  clear hb h1 h2 h3 hok hlens hoks hri hR hrs hF hFl hFr hrok
  generalize rightL (acs xs) = RL at *
  go_enter Tryd.func11, Tryd.ntmps11
  go_upto_region 5 with (first
    | ((with_reducible show wpList _ _ _ ({ dst := some 2, op := Op.box 40 _, type := _, pos := _, after := _, guard := _ } :: _) _ _); refine bxA _ rfl 40 _ rfl _ rfl ?_; intro g1 w1 hg hs1 k1 e1; have X1 := Lib.hid k1; have E1 := Lib.hid e1; obtain ⟨a0, a1⟩ := lg_cells k1; clear hg hs1 k1 e1)
    | (go_at_call 22; refine (HLA.out _ E1.out).mono ?_; rintro e w2 ⟨rfl, e2⟩; have X2 := Lib.hid (X1.out.ext e2); have E2 := Lib.hid (E1.out.trans e2); clear e2 a0 a1; obtain ⟨a0, a1⟩ := lg_cells X2.out)
    | (go_at_call 43; refine (HLR.out _ E2.out).mono ?_; rintro e wl ⟨rfl, rfl⟩)
    | (go_at_call 32; refine (HRI.out _ E2.out).mono ?_; rintro e w3 ⟨rfl, e3⟩; have X3 := Lib.hid (X2.out.ext e3); have E3 := Lib.hid (E2.out.trans e3); clear e3 a0 a1; obtain ⟨a0, a1⟩ := lg_cells X3.out)
    | (go_at_call 41; refine (HFO.out _ E3.out).mono ?_; rintro e w4 ⟨A4, c4, ys, rfl, hy, o4, e4⟩; have HY := Lib.hid hy; have O4 := Lib.hid o4; have X4 := Lib.hid (X3.out.ext e4); have E4 := Lib.hid (E3.out.trans e4); clear e4 hy o4 a0 a1)
    | ((with_reducible show wpList _ _ _ ({ dst := some 5, op := Op.alloc 40, type := _, pos := _, after := _, guard := _ } :: _) _ _); refine alA _ rfl 40 rfl _ _ zero_lg ?_; intro g5 w5 hg hs1 k1 e1; have Z5 := Lib.hid k1; have O5 := Lib.hid (O4.out.ext e1); have F5 := Lib.hid (O4.out.off (g := g5) (.inr (Nat.le_of_eq hg))); have X5 := Lib.hid (X4.out.ext e1); have E5 := Lib.hid (E4.out.trans e1); have G5 := Lib.hid (show w.heap.size ≤ g5 ∧ g1 < g5 from ⟨by have := E4.out.size; omega, by have := X4.out.lt; omega⟩); clear hg hs1 k1 e1)
    | ((with_reducible show wpList _ _ _ ({ dst := none, op := Op.store 40 (Operand.tmp 5) _, type := _, pos := _, after := _, guard := _ } :: _) _ _); refine stA _ rfl 40 40 _ _ rfl g5 _ #[.int .u64 SQ, .slice A4 ys.length c4] rfl rfl Z5.out size_lg rfl (lg_one _ _ _ _) ?_; intro w6 hs6 k6 q6; have Z6 := Lib.hid k6; have O6 := Lib.hid (O5.out.keep q6 F5.out); have X6 := Lib.hid (X5.out.grown q6 (by have := G5.out.2; intro hh; injection hh; omega)); have E6 := Lib.hid (E5.out.grown q6 (fun q hq => by injection hq with hq; have := G5.out; omega)); obtain ⟨a0, a1⟩ := lg_cells X6.out; clear hs6 k6 q6)
    | (go_at_call 44; refine (HRF.out _ E6.out).mono ?_; rintro e w7 ⟨A7, c7, zs, rfl, hz, r7, p7, e7⟩; have HZ := Lib.hid hz; have R7 := Lib.hid r7; have P7 := Lib.hid p7; have O7 := Lib.hid (O6.out.ext e7); have Z7 := Lib.hid (Z6.out.ext e7); have X7 := Lib.hid (X6.out.ext e7); have E7 := Lib.hid (E6.out.trans e7); clear e7 hz r7 p7 a0 a1)
    | ((with_reducible show wpList _ _ _ ({ dst := some 7, op := Op.alloc 40, type := _, pos := _, after := _, guard := _ } :: _) _ _); refine alA _ rfl 40 rfl _ _ zero_lg ?_; intro g7 w8 hg hs1 k1 e1; have V8 := Lib.hid k1; have O8 := Lib.hid (O7.out.ext e1); have R8 := Lib.hid (R7.out.ext e1); have F8 := Lib.hid (O7.out.off (g := g7) (.inr (Nat.le_of_eq hg))); have X8 := Lib.hid (X7.out.ext e1); have Z8 := Lib.hid (Z7.out.ext e1); have E8 := Lib.hid (E7.out.trans e1); have G7 := Lib.hid (show w.heap.size ≤ g7 ∧ g1 < g7 ∧ g5 < g7 from ⟨by have := E7.out.size; omega, by have := X7.out.lt; omega, by have := Z7.out.lt; omega⟩); clear hg hs1 k1 e1)
    | ((with_reducible show wpList _ _ _ ({ dst := none, op := Op.store 40 (Operand.tmp 7) _, type := _, pos := _, after := _, guard := _ } :: _) _ _); refine stA _ rfl 40 40 _ _ rfl g7 _ #[.int .u64 SQ, .slice A7 zs.length c7] rfl rfl V8.out size_lg rfl (lg_one _ _ _ _) ?_; intro wc hs9 k9 q9; have V9 := Lib.hid k9; have O9 := Lib.hid (O8.out.keep q9 F8.out); have R9 := Lib.hid (RdL.keepG V8.out R8.out q9); have X9 := Lib.hid (X8.out.grown q9 (by have := G7.out; intro hh; injection hh; omega)); have Z9 := Lib.hid (Z8.out.grown q9 (by have := G7.out; intro hh; injection hh; omega)); have EC := Lib.hid (E8.out.grown q9 (fun q hq => by injection hq with hq; have := G7.out; omega)); clear hs9 k9 q9))
  have KS : Hid (∀ W, Ext wc W → (Ext wc W ∧ (W.cell? ⟨g1, 0, none⟩ = some (.int .u64 seq) ∧ W.cell? ⟨g1, 1, none⟩ = some (.slice A xs.length c)) ∧ (W.cell? ⟨g5, 0, none⟩ = some (.int .u64 SQ) ∧ W.cell? ⟨g5, 1, none⟩ = some (.slice A4 ys.length c4)) ∧ (W.cell? ⟨g7, 0, none⟩ = some (.int .u64 SQ) ∧ W.cell? ⟨g7, 1, none⟩ = some (.slice A7 zs.length c7)))) := fun W e => ⟨e, lg_cells (X9.out.ext e), lg_cells (Z9.out.ext e), lg_cells (V9.out.ext e)⟩
  have hyl : ys.length ≤ 100 := by have h := congrArg List.length HY.out; rw [acs_len] at h; have h2 : FL.length ≤ 100 := HFL.out; omega
  have hyo : ∀ x ∈ ys, x.a.ok := fun x hx => (O9.out.2 x hx).2.1
  have HRS : Hid (∀ W, Ext wc W → Calls Tryd.prog 29 #[(.agg #[.int .u64 SQ, .slice A4 ys.length c4]), (.agg #[.int .u64 SQ, .slice A7 zs.length c7])] W (RetV W (.bool true))) := fun W e => by
    have h := rlsame_calls SQ SQ A4 A7 c4 c7 ys zs W (O9.out.rdl.ext e) (R9.out.ext e) hyo P7.out (by omega)
    rw [decide_eq_true (show SQ = SQ ∧ acs ys = acs zs from ⟨rfl, HY.out.trans HZ.out.symm⟩)] at h
    exact h
  have HGR : Hid (∀ W, Ext wc W → Calls Tryd.prog 45 #[(.agg #[.int .u64 SQ, .slice A4 ys.length c4])] W (RetV W (.bool (rightL FL)))) := fun W e => by
    have h := lgright_calls SQ A4 c4 ys W (O9.out.rdl.ext e) hyo (by omega) (HL.out.ext (EC.out.trans e))
    rwa [HY.out] at h
  have HRX : Hid (∀ W, Ext wc W → Calls Tryd.prog 25 #[(.agg #[.int .u64 SQ, .slice A4 ys.length c4])] W (RetV W (.bool (rightL FL)))) := fun W e => by
    have h := rlright_calls SQ A4 c4 ys W (O9.out.rdl.ext e) hyo (by omega)
    rwa [HY.out] at h
  have HRL : Hid (∀ W, Ext wc W → Calls Tryd.prog 25 #[(.agg #[.int .u64 seq, .slice A xs.length c])] W (RetV W (.bool RL))) := fun W e => HRL0.out W (EC.out.trans e)
  have HCL : Hid (∀ W, Ext wc W → Calls Tryd.prog 47 #[(.agg #[.int .u64 SQ, .slice A4 ys.length c4])] W (fun e w' => ∃ A5 c5, ∃ us : List Ax, e = .returned ((.agg #[.int .u64 SQ, .slice A5 us.length c5])) ∧ (∀ W', Ext w' W' → Calls Tryd.prog 46 #[(.agg #[.int .u64 SQ, .slice A4 ys.length c4]), (.agg #[.int .u64 SQ, .slice A5 us.length c5])] W' (RetV W' (.bool true))) ∧ Ext W w')) := fun W e => by
    refine (lgclone_calls SQ A4 c4 ys W (O9.out.rdl.ext e) hyo (by omega)).mono ?_
    rintro e' w' ⟨A5, c5, us, h1, h2, h3, h4⟩
    refine ⟨A5, c5, us, h1, fun W' e2 => ?_, h4⟩
    have h := lgsame_calls SQ SQ A4 A5 c4 c5 ys us W' (O9.out.rdl.ext ((e.trans h4).trans e2)) (h3.rdl.ext e2) hyo (fun x hx => (h3.2 x hx).2.1) (by omega)
    rw [decide_eq_true (show SQ = SQ ∧ acs ys = acs us from ⟨rfl, h2.symm⟩)] at h
    exact h
  have HAC : Hid (∀ W, Ext wc W → Calls Tryd.prog 33 #[] W (RetV W (.bool true))) := fun W e => HAW.out W (EC.out.trans e)
  clear hyl hyo HAW HRF HFO HRL0 HLA HLR HRI
  cases RL with
  | true =>
    have hx : rightL FL = true := HFR.out rfl
    rw [hx] at HGR HRX
    clear hx HFR
    first | (go_region_held3 (fun W => (Ext wc W ∧ (W.cell? ⟨g1, 0, none⟩ = some (.int .u64 seq) ∧ W.cell? ⟨g1, 1, none⟩ = some (.slice A xs.length c)) ∧ (W.cell? ⟨g5, 0, none⟩ = some (.int .u64 SQ) ∧ W.cell? ⟨g5, 1, none⟩ = some (.slice A4 ys.length c4)) ∧ (W.cell? ⟨g7, 0, none⟩ = some (.int .u64 SQ) ∧ W.cell? ⟨g7, 1, none⟩ = some (.slice A7 zs.length c7)))) (first | with_reducible exact KS.out _ (Ext.refl _).drew | with_reducible exact KS.out _ (by with_reducible assumption)) (first | (go_at_call_of 29 (Value.slice A7 zs.length c7); refine (HRS.out _ (by first | with_reducible assumption | with_reducible exact (Ext.refl _).drew | with_reducible exact Ext.refl _)).mono ?_; rintro e v1 ⟨rfl, e1⟩; have T1 : Ext wc v1 := Ext.trans (by first | with_reducible assumption | with_reducible exact (Ext.refl _).drew | with_reducible exact Ext.refl _) e1; clear e1) | (go_at_call 45; refine (HGR.out _ (by first | with_reducible assumption | with_reducible exact (Ext.refl _).drew | with_reducible exact Ext.refl _)).mono ?_; rintro e v2 ⟨rfl, e1⟩; have T2 : Ext wc v2 := Ext.trans (by first | with_reducible assumption | with_reducible exact (Ext.refl _).drew | with_reducible exact Ext.refl _) e1; clear e1) | (go_at_call_of 25 (Value.slice A4 ys.length c4); refine (HRX.out _ (by first | with_reducible assumption | with_reducible exact (Ext.refl _).drew | with_reducible exact Ext.refl _)).mono ?_; rintro e v3 ⟨rfl, e1⟩; have T3 : Ext wc v3 := Ext.trans (by first | with_reducible assumption | with_reducible exact (Ext.refl _).drew | with_reducible exact Ext.refl _) e1; clear e1) | (go_at_call_of 25 (Value.slice A xs.length c); refine (HRL.out _ (by first | with_reducible assumption | with_reducible exact (Ext.refl _).drew | with_reducible exact Ext.refl _)).mono ?_; rintro e v4 ⟨rfl, e1⟩; have T4 : Ext wc v4 := Ext.trans (by first | with_reducible assumption | with_reducible exact (Ext.refl _).drew | with_reducible exact Ext.refl _) e1; clear e1) | (go_at_call 47; refine (HCL.out _ (by first | with_reducible assumption | with_reducible exact (Ext.refl _).drew | with_reducible exact Ext.refl _)).mono ?_; rintro e v5 ⟨A5, c5, us, rfl, hu, e1⟩; have T5 : Ext wc v5 := Ext.trans (by first | with_reducible assumption | with_reducible exact (Ext.refl _).drew | with_reducible exact Ext.refl _) e1; have HU := Lib.hid hu; clear hu e1) | (go_at_call 46; refine (HU.out _ (Ext.refl _)).mono ?_; rintro e v6 ⟨rfl, e1⟩; have T6 : Ext wc v6 := Ext.trans (by first | with_reducible assumption | with_reducible exact (Ext.refl _).drew | with_reducible exact Ext.refl _) e1; clear e1) | (go_at_call 33; refine (HAC.out _ (by first | with_reducible assumption | with_reducible exact (Ext.refl _).drew | with_reducible exact Ext.refl _)).mono ?_; rintro e v7 ⟨rfl, e1⟩; have T7 : Ext wc v7 := Ext.trans (by first | with_reducible assumption | with_reducible exact (Ext.refl _).drew | with_reducible exact Ext.refl _) e1; clear e1))) | skip
    all_goals
      go_wp2_with fail
      go_ret
      exact ⟨rfl, EC.out.trans T7⟩
  | false =>
    clear HFR
    generalize rightL FL = RX at *
    refine wp_region_held_drew (S := fun W => (Ext wc W ∧ (W.cell? ⟨g1, 0, none⟩ = some (.int .u64 seq) ∧ W.cell? ⟨g1, 1, none⟩ = some (.slice A xs.length c)) ∧ (W.cell? ⟨g5, 0, none⟩ = some (.int .u64 SQ) ∧ W.cell? ⟨g5, 1, none⟩ = some (.slice A4 ys.length c4)) ∧ (W.cell? ⟨g7, 0, none⟩ = some (.int .u64 SQ) ∧ W.cell? ⟨g7, 1, none⟩ = some (.slice A7 zs.length c7)))) (by kernel_rfl) (KS.out _ (Ext.refl _).drew) (fun hHeld => ?_)
    refine wpAnyH_take (i := 0) (oi := { dst := some 33, op := Op.load 40 (Operand.tmp 5), type := 40, pos := "law.go:41", after := _, guard := none }) (v := ?_) rfl (by kernel_rfl) (by kernel_rfl) (by kernel_rfl) (fun _ _ _ h => h) (Or.inl ⟨by rfl, ?_⟩) (by assumption) ?_
    rotate_left
    · intro w hSw; (try dsimp only at hSw); go_simp; try with_reducible rfl
    try simp only [Act.put, List.setIfInBounds_toArray, List.set_cons_zero, List.set_cons_succ]
    refine wpAnyH_take (i := 1) (oi := { dst := some 34, op := Op.load 40 (Operand.tmp 7), type := 40, pos := "law.go:41", after := _, guard := none }) (v := ?_) rfl (by kernel_rfl) (by kernel_rfl) (by kernel_rfl) (fun _ _ _ h => h) (Or.inl ⟨by rfl, ?_⟩) (by assumption) ?_
    rotate_left
    · intro w hSw; (try dsimp only at hSw); go_simp; try with_reducible rfl
    try simp only [Act.put, List.setIfInBounds_toArray, List.set_cons_zero, List.set_cons_succ]
    refine wpAnyH_ready (rs := [2]) (by kernel_rfl) (by simp) ?_
    refine AllReadyH.cons (o := { dst := some 35, op := Op.call { callee := Callee.value (Operand.func 29), args := #[Operand.tmp 33, Operand.tmp 34], argTypes := #[40, 40] }, type := 4, pos := "law.go:41", after := _, guard := none }) rfl (fun K hK => ?_) AllReadyH.nil
    go_simp
    refine (HRS.out _ (by first | with_reducible assumption | with_reducible exact (Ext.refl _).drew | with_reducible exact Ext.refl _)).mono ?_
    rintro e v1 ⟨rfl, e1⟩
    have T1 : Ext wc v1 := Ext.trans (by first | with_reducible assumption | with_reducible exact (Ext.refl _).drew | with_reducible exact Ext.refl _) e1
    clear e1
    go_wp2_with fail
    refine hK.out _ _ (KS.out _ T1) (fun hHeld => ?_)
    clear hK K
    try simp only [Act.put, List.setIfInBounds_toArray, List.set_cons_zero, List.set_cons_succ]
    refine wpAnyH_take (i := 3) (oi := { dst := some 36, op := Op.move (Operand.tmp 35), type := 4, pos := "law.go:41", after := _, guard := none }) (v := ?_) rfl (by kernel_rfl) (by kernel_rfl) (by kernel_rfl) (fun _ _ _ h => h) (Or.inl ⟨by rfl, ?_⟩) (by assumption) ?_
    rotate_left
    · intro w hSw; (try dsimp only at hSw); go_simp; try with_reducible rfl
    try simp only [Act.put, List.setIfInBounds_toArray, List.set_cons_zero, List.set_cons_succ]
    refine wpAnyH_take (i := 4) (oi := { dst := some 37, op := Op.move (Operand.tmp 6), type := 3, pos := "law.go:41", after := _, guard := some (3, true) }) (v := ?_) rfl (by kernel_rfl) (by kernel_rfl) (by kernel_rfl) (fun _ _ _ h => h) (Or.inl ⟨by rfl, ?_⟩) (by assumption) ?_
    rotate_left
    · intro w hSw; (try dsimp only at hSw); go_simp; try with_reducible rfl
    try simp only [Act.put, List.setIfInBounds_toArray, List.set_cons_zero, List.set_cons_succ]
    refine wpAnyH_take (i := 5) (oi := { dst := some 38, op := Op.move (Operand.tmp 8), type := 3, pos := "law.go:41", after := _, guard := some (3, true) }) (v := ?_) rfl (by kernel_rfl) (by kernel_rfl) (by kernel_rfl) (fun _ _ _ h => h) (Or.inl ⟨by rfl, ?_⟩) (by assumption) ?_
    rotate_left
    · intro w hSw; (try dsimp only at hSw); go_simp; try with_reducible rfl
    try simp only [Act.put, List.setIfInBounds_toArray, List.set_cons_zero, List.set_cons_succ]
    refine wpAnyH_take (i := 6) (oi := { dst := some 39, op := Op.binOp BinOp.eql 3 (Operand.tmp 37) (Operand.tmp 38) 3, type := 4, pos := "law.go:41", after := _, guard := some (3, true) }) (v := ?_) rfl (by kernel_rfl) (by kernel_rfl) (by kernel_rfl) (fun _ _ _ h => h) (Or.inl ⟨by rfl, ?_⟩) (by assumption) ?_
    rotate_left
    · intro w hSw; (try dsimp only at hSw); go_simp; try with_reducible rfl
    try simp only [Act.put, List.setIfInBounds_toArray, List.set_cons_zero, List.set_cons_succ]
    refine wpAnyH_take (i := 7) (oi := { dst := some 40, op := Op.pick (Operand.tmp 36) (Operand.tmp 39) (Operand.const (Value.bool false)), type := 4, pos := "law.go:41", after := _, guard := none }) (v := ?_) rfl (by kernel_rfl) (by kernel_rfl) (by kernel_rfl) (fun _ _ _ h => h) (Or.inl ⟨by rfl, ?_⟩) (by assumption) ?_
    rotate_left
    · intro w hSw; (try dsimp only at hSw); go_simp; try with_reducible rfl
    try simp only [Act.put, List.setIfInBounds_toArray, List.set_cons_zero, List.set_cons_succ]
    refine wpAnyH_take (i := 8) (oi := { dst := some 41, op := Op.move (Operand.tmp 40), type := 4, pos := "law.go:41", after := _, guard := none }) (v := ?_) rfl (by kernel_rfl) (by kernel_rfl) (by kernel_rfl) (fun _ _ _ h => h) (Or.inl ⟨by rfl, ?_⟩) (by assumption) ?_
    rotate_left
    · intro w hSw; (try dsimp only at hSw); go_simp; try with_reducible rfl
    try simp only [Act.put, List.setIfInBounds_toArray, List.set_cons_zero, List.set_cons_succ]
    refine wpAnyH_take (i := 9) (oi := { dst := some 42, op := Op.load 40 (Operand.tmp 5), type := 40, pos := "law.go:41", after := _, guard := some (8, true) }) (v := ?_) rfl (by kernel_rfl) (by kernel_rfl) (by kernel_rfl) (fun _ _ _ h => h) (Or.inl ⟨by rfl, ?_⟩) (by assumption) ?_
    rotate_left
    · intro w hSw; (try dsimp only at hSw); go_simp; try with_reducible rfl
    try simp only [Act.put, List.setIfInBounds_toArray, List.set_cons_zero, List.set_cons_succ]
    refine wpAnyH_take (i := 11) (oi := { dst := some 44, op := Op.load 40 (Operand.tmp 5), type := 40, pos := "law.go:41", after := _, guard := some (8, true) }) (v := ?_) rfl (by kernel_rfl) (by kernel_rfl) (by kernel_rfl) (fun _ _ _ h => h) (Or.inl ⟨by rfl, ?_⟩) (by assumption) ?_
    rotate_left
    · intro w hSw; (try dsimp only at hSw); go_simp; try with_reducible rfl
    try simp only [Act.put, List.setIfInBounds_toArray, List.set_cons_zero, List.set_cons_succ]
    refine wpAnyH_ready (rs := [10]) (by kernel_rfl) (by simp) ?_
    refine AllReadyH.cons (o := { dst := some 43, op := Op.call { callee := Callee.value (Operand.func 45), args := #[Operand.tmp 42], argTypes := #[40] }, type := 4, pos := "law.go:41", after := _, guard := some (8, true) }) rfl (fun K hK => ?_) AllReadyH.nil
    go_simp
    refine (HGR.out _ (by first | with_reducible assumption | with_reducible exact (Ext.refl _).drew | with_reducible exact Ext.refl _)).mono ?_
    rintro e v2 ⟨rfl, e1⟩
    have T2 : Ext wc v2 := Ext.trans (by first | with_reducible assumption | with_reducible exact (Ext.refl _).drew | with_reducible exact Ext.refl _) e1
    clear e1
    go_wp2_with fail
    refine hK.out _ _ (KS.out _ T2) (fun hHeld => ?_)
    clear hK K
    try simp only [Act.put, List.setIfInBounds_toArray, List.set_cons_zero, List.set_cons_succ]
    refine wpAnyH_ready (rs := [12]) (by kernel_rfl) (by simp) ?_
    refine AllReadyH.cons (o := { dst := some 45, op := Op.call { callee := Callee.value (Operand.func 25), args := #[Operand.tmp 44], argTypes := #[40] }, type := 4, pos := "law.go:41", after := _, guard := some (8, true) }) rfl (fun K hK => ?_) AllReadyH.nil
    go_simp
    refine (HRX.out _ (by first | with_reducible assumption | with_reducible exact (Ext.refl _).drew | with_reducible exact Ext.refl _)).mono ?_
    rintro e v3 ⟨rfl, e1⟩
    have T3 : Ext wc v3 := Ext.trans (by first | with_reducible assumption | with_reducible exact (Ext.refl _).drew | with_reducible exact Ext.refl _) e1
    clear e1
    go_wp2_with fail
    refine hK.out _ _ (KS.out _ T3) (fun hHeld => ?_)
    clear hK K
    try simp only [Act.put, List.setIfInBounds_toArray, List.set_cons_zero, List.set_cons_succ]
    refine wpAnyH_take (i := 13) (oi := { dst := some 46, op := Op.binOp BinOp.eql 4 (Operand.tmp 43) (Operand.tmp 45) 4, type := 4, pos := "law.go:41", after := _, guard := some (8, true) }) (v := ?_) rfl (by kernel_rfl) (by kernel_rfl) (by kernel_rfl) (fun _ _ _ h => h) (Or.inl ⟨by rfl, ?_⟩) (by assumption) ?_
    rotate_left
    · intro w hSw; (try dsimp only at hSw); go_simp; try with_reducible rfl
    try simp only [Act.put, List.setIfInBounds_toArray, List.set_cons_zero, List.set_cons_succ]
    refine wpAnyH_take (i := 14) (oi := { dst := some 47, op := Op.pick (Operand.tmp 41) (Operand.tmp 46) (Operand.const (Value.bool false)), type := 4, pos := "law.go:41", after := _, guard := none }) (v := ?_) rfl (by kernel_rfl) (by kernel_rfl) (by kernel_rfl) (fun _ _ _ h => h) (Or.inl ⟨by rfl, ?_⟩) (by assumption) ?_
    rotate_left
    · intro w hSw; (try dsimp only at hSw); go_simp; try with_reducible rfl
    try simp only [Act.put, List.setIfInBounds_toArray, List.set_cons_zero, List.set_cons_succ]
    refine wpAnyH_take (i := 15) (oi := { dst := some 48, op := Op.move (Operand.tmp 47), type := 4, pos := "law.go:41", after := _, guard := none }) (v := ?_) rfl (by kernel_rfl) (by kernel_rfl) (by kernel_rfl) (fun _ _ _ h => h) (Or.inl ⟨by rfl, ?_⟩) (by assumption) ?_
    rotate_left
    · intro w hSw; (try dsimp only at hSw); go_simp; try with_reducible rfl
    try simp only [Act.put, List.setIfInBounds_toArray, List.set_cons_zero, List.set_cons_succ]
    refine wpAnyH_take (i := 16) (oi := { dst := some 49, op := Op.load 40 (Operand.tmp 2), type := 40, pos := "law.go:41", after := _, guard := some (15, true) }) (v := ?_) rfl (by kernel_rfl) (by kernel_rfl) (by kernel_rfl) (fun _ _ _ h => h) (Or.inl ⟨by rfl, ?_⟩) (by assumption) ?_
    rotate_left
    · intro w hSw; (try dsimp only at hSw); go_simp; try with_reducible rfl
    try simp only [Act.put, List.setIfInBounds_toArray, List.set_cons_zero, List.set_cons_succ]
    refine wpAnyH_ready (rs := [17]) (by kernel_rfl) (by simp) ?_
    refine AllReadyH.cons (o := { dst := some 50, op := Op.call { callee := Callee.value (Operand.func 25), args := #[Operand.tmp 49], argTypes := #[40] }, type := 4, pos := "law.go:41", after := _, guard := some (15, true) }) rfl (fun K hK => ?_) AllReadyH.nil
    go_simp
    refine (HRL.out _ (by first | with_reducible assumption | with_reducible exact (Ext.refl _).drew | with_reducible exact Ext.refl _)).mono ?_
    rintro e v4 ⟨rfl, e1⟩
    have T4 : Ext wc v4 := Ext.trans (by first | with_reducible assumption | with_reducible exact (Ext.refl _).drew | with_reducible exact Ext.refl _) e1
    clear e1
    go_wp2_with fail
    refine hK.out _ _ (KS.out _ T4) (fun hHeld => ?_)
    clear hK K
    try simp only [Act.put, List.setIfInBounds_toArray, List.set_cons_zero, List.set_cons_succ]
    refine wpAnyH_take (i := 18) (oi := { dst := some 51, op := Op.unOp UnOp.not 4 (Operand.tmp 50), type := 4, pos := "law.go:41", after := _, guard := some (15, true) }) (v := ?_) rfl (by kernel_rfl) (by kernel_rfl) (by kernel_rfl) (fun _ _ _ h => h) (Or.inl ⟨by rfl, ?_⟩) (by assumption) ?_
    rotate_left
    · intro w hSw; (try dsimp only at hSw); go_simp; try with_reducible rfl
    try simp only [Act.put, List.setIfInBounds_toArray, List.set_cons_zero, List.set_cons_succ]
    refine wpAnyH_take (i := 19) (oi := { dst := some 52, op := Op.move (Operand.tmp 51), type := 4, pos := "law.go:41", after := _, guard := some (15, true) }) (v := ?_) rfl (by kernel_rfl) (by kernel_rfl) (by kernel_rfl) (fun _ _ _ h => h) (Or.inl ⟨by rfl, ?_⟩) (by assumption) ?_
    rotate_left
    · intro w hSw; (try dsimp only at hSw); go_simp; try with_reducible rfl
    try simp only [Act.put, List.setIfInBounds_toArray, List.set_cons_zero, List.set_cons_succ]
    refine wpAnyH_ready (rs := [20]) (by kernel_rfl) (by simp) ?_
    refine AllReadyH.cons (o := { dst := some 53, op := Op.load 40 (Operand.tmp 5), type := 40, pos := "law.go:41", after := _, guard := some (19, false) }) rfl (fun K hK => ?_) AllReadyH.nil
    go_simp
    refine hK.out _ _ (by assumption) (fun hHeld => ?_)
    clear hK K
    try simp only [Act.put, List.setIfInBounds_toArray, List.set_cons_zero, List.set_cons_succ]
    refine wpAnyH_ready (rs := [21]) (by kernel_rfl) (by simp) ?_
    refine AllReadyH.cons (o := { dst := some 54, op := Op.call { callee := Callee.value (Operand.func 25), args := #[Operand.tmp 53], argTypes := #[40] }, type := 4, pos := "law.go:41", after := _, guard := some (19, false) }) rfl (fun K hK => ?_) AllReadyH.nil
    go_simp
    refine hK.out _ _ (by assumption) (fun hHeld => ?_)
    clear hK K
    try simp only [Act.put, List.setIfInBounds_toArray, List.set_cons_zero, List.set_cons_succ]
    refine wpAnyH_take (i := 22) (oi := { dst := some 55, op := Op.pick (Operand.tmp 52) (Operand.const (Value.bool true)) (Operand.tmp 54), type := 4, pos := "law.go:41", after := _, guard := some (15, true) }) (v := ?_) rfl (by kernel_rfl) (by kernel_rfl) (by kernel_rfl) (fun _ _ _ h => h) (Or.inl ⟨by rfl, ?_⟩) (by assumption) ?_
    rotate_left
    · intro w hSw; (try dsimp only at hSw); go_simp; try with_reducible rfl
    try simp only [Act.put, List.setIfInBounds_toArray, List.set_cons_zero, List.set_cons_succ]
    refine wpAnyH_take (i := 23) (oi := { dst := some 56, op := Op.pick (Operand.tmp 48) (Operand.tmp 55) (Operand.const (Value.bool false)), type := 4, pos := "law.go:41", after := _, guard := none }) (v := ?_) rfl (by kernel_rfl) (by kernel_rfl) (by kernel_rfl) (fun _ _ _ h => h) (Or.inl ⟨by rfl, ?_⟩) (by assumption) ?_
    rotate_left
    · intro w hSw; (try dsimp only at hSw); go_simp; try with_reducible rfl
    try simp only [Act.put, List.setIfInBounds_toArray, List.set_cons_zero, List.set_cons_succ]
    refine wpAnyH_take (i := 24) (oi := { dst := some 57, op := Op.move (Operand.tmp 56), type := 4, pos := "law.go:41", after := _, guard := none }) (v := ?_) rfl (by kernel_rfl) (by kernel_rfl) (by kernel_rfl) (fun _ _ _ h => h) (Or.inl ⟨by rfl, ?_⟩) (by assumption) ?_
    rotate_left
    · intro w hSw; (try dsimp only at hSw); go_simp; try with_reducible rfl
    try simp only [Act.put, List.setIfInBounds_toArray, List.set_cons_zero, List.set_cons_succ]
    refine wpAnyH_take (i := 25) (oi := { dst := some 58, op := Op.load 40 (Operand.tmp 5), type := 40, pos := "law.go:41", after := _, guard := some (24, true) }) (v := ?_) rfl (by kernel_rfl) (by kernel_rfl) (by kernel_rfl) (fun _ _ _ h => h) (Or.inl ⟨by rfl, ?_⟩) (by assumption) ?_
    rotate_left
    · intro w hSw; (try dsimp only at hSw); go_simp; try with_reducible rfl
    try simp only [Act.put, List.setIfInBounds_toArray, List.set_cons_zero, List.set_cons_succ]
    refine wpAnyH_take (i := 26) (oi := { dst := some 59, op := Op.load 40 (Operand.tmp 5), type := 40, pos := "law.go:41", after := _, guard := some (24, true) }) (v := ?_) rfl (by kernel_rfl) (by kernel_rfl) (by kernel_rfl) (fun _ _ _ h => h) (Or.inl ⟨by rfl, ?_⟩) (by assumption) ?_
    rotate_left
    · intro w hSw; (try dsimp only at hSw); go_simp; try with_reducible rfl
    try simp only [Act.put, List.setIfInBounds_toArray, List.set_cons_zero, List.set_cons_succ]
    refine wpAnyH_ready (rs := [27]) (by kernel_rfl) (by simp) ?_
    refine AllReadyH.cons (o := { dst := some 60, op := Op.call { callee := Callee.value (Operand.func 47), args := #[Operand.tmp 59], argTypes := #[40] }, type := 40, pos := "law.go:41", after := _, guard := some (24, true) }) rfl (fun K hK => ?_) AllReadyH.nil
    go_simp
    refine (HCL.out _ (by first | with_reducible assumption | with_reducible exact (Ext.refl _).drew | with_reducible exact Ext.refl _)).mono ?_
    rintro e v5 ⟨A5, c5, us, rfl, hu, e1⟩
    have T5 : Ext wc v5 := Ext.trans (by first | with_reducible assumption | with_reducible exact (Ext.refl _).drew | with_reducible exact Ext.refl _) e1
    have HU := Lib.hid hu
    clear hu e1
    go_wp2_with fail
    refine hK.out _ _ (KS.out _ T5) (fun hHeld => ?_)
    clear hK K
    try simp only [Act.put, List.setIfInBounds_toArray, List.set_cons_zero, List.set_cons_succ]
    refine wpAnyH_ready (rs := [28]) (by kernel_rfl) (by simp) ?_
    refine AllReadyH.cons (o := { dst := some 61, op := Op.call { callee := Callee.value (Operand.func 46), args := #[Operand.tmp 58, Operand.tmp 60], argTypes := #[40, 40] }, type := 4, pos := "law.go:41", after := _, guard := some (24, true) }) rfl (fun K hK => ?_) AllReadyH.nil
    go_simp
    refine (HU.out _ (Ext.refl _)).mono ?_
    rintro e v6 ⟨rfl, e1⟩
    have T6 : Ext wc v6 := Ext.trans T5 e1
    clear e1
    go_wp2_with fail
    refine hK.out _ _ (KS.out _ T6) (fun hHeld => ?_)
    clear hK K
    try simp only [Act.put, List.setIfInBounds_toArray, List.set_cons_zero, List.set_cons_succ]
    refine wpAnyH_take (i := 29) (oi := { dst := some 62, op := Op.pick (Operand.tmp 57) (Operand.tmp 61) (Operand.const (Value.bool false)), type := 4, pos := "law.go:41", after := _, guard := none }) (v := ?_) rfl (by kernel_rfl) (by kernel_rfl) (by kernel_rfl) (fun _ _ _ h => h) (Or.inl ⟨by rfl, ?_⟩) (by assumption) ?_
    rotate_left
    · intro w hSw; (try dsimp only at hSw); go_simp; try with_reducible rfl
    try simp only [Act.put, List.setIfInBounds_toArray, List.set_cons_zero, List.set_cons_succ]
    refine wpAnyH_take (i := 30) (oi := { dst := some 63, op := Op.move (Operand.tmp 62), type := 4, pos := "law.go:41", after := _, guard := none }) (v := ?_) rfl (by kernel_rfl) (by kernel_rfl) (by kernel_rfl) (fun _ _ _ h => h) (Or.inl ⟨by rfl, ?_⟩) (by assumption) ?_
    rotate_left
    · intro w hSw; (try dsimp only at hSw); go_simp; try with_reducible rfl
    try simp only [Act.put, List.setIfInBounds_toArray, List.set_cons_zero, List.set_cons_succ]
    refine wpAnyH_ready (rs := [31]) (by kernel_rfl) (by simp) ?_
    refine AllReadyH.cons (o := { dst := some 64, op := Op.call { callee := Callee.value (Operand.func 33), args := #[], argTypes := #[] }, type := 4, pos := "law.go:41", after := _, guard := some (30, true) }) rfl (fun K hK => ?_) AllReadyH.nil
    go_simp
    refine (HAC.out _ (by first | with_reducible assumption | with_reducible exact (Ext.refl _).drew | with_reducible exact Ext.refl _)).mono ?_
    rintro e v7 ⟨rfl, e1⟩
    have T7 : Ext wc v7 := Ext.trans (by first | with_reducible assumption | with_reducible exact (Ext.refl _).drew | with_reducible exact Ext.refl _) e1
    clear e1
    go_wp2_with fail
    refine hK.out _ _ (KS.out _ T7) (fun hHeld => ?_)
    clear hK K
    try simp only [Act.put, List.setIfInBounds_toArray, List.set_cons_zero, List.set_cons_succ]
    refine wpAnyH_take (i := 32) (oi := { dst := some 65, op := Op.pick (Operand.tmp 63) (Operand.tmp 64) (Operand.const (Value.bool false)), type := 4, pos := "law.go:41", after := _, guard := none }) (v := ?_) rfl (by kernel_rfl) (by kernel_rfl) (by kernel_rfl) (fun _ _ _ h => h) (Or.inl ⟨by rfl, ?_⟩) (by assumption) ?_
    rotate_left
    · intro w hSw; (try dsimp only at hSw); go_simp; try with_reducible rfl
    try simp only [Act.put, List.setIfInBounds_toArray, List.set_cons_zero, List.set_cons_succ]
    refine wpAnyH_take (i := 33) (oi := { dst := some 4, op := Op.assign (Operand.tmp 65), type := 4, pos := "law.go:41", after := _, guard := none }) (v := ?_) rfl (by kernel_rfl) (by kernel_rfl) (by kernel_rfl) (fun _ _ _ h => h) (Or.inl ⟨by rfl, ?_⟩) (by assumption) ?_
    rotate_left
    · intro w hSw; (try dsimp only at hSw); go_simp; try with_reducible rfl
    try simp only [Act.put, List.setIfInBounds_toArray, List.set_cons_zero, List.set_cons_succ]
    refine wpAnyH_done (by kernel_rfl) ?_ _
    go_wp2_with fail
    go_ret
    exact ⟨by simp, EC.out.trans T7⟩
end Go.Proofs.YtkbjnlbbfapgdaaDoor

