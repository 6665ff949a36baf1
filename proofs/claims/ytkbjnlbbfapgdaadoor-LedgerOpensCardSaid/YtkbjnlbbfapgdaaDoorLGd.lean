/- ledger.Top. ledger.Open. ref16.Same, Right. ref16.Right. ledger.Right. -/
import Derived.Test.YtkbjnlbbfapgdaaDoorLGa
import Derived.Test.YtkbjnlbbfapgdaaDoorLGc
import Derived.Test.YtkbjnlbbfapgdaaDoorAcctT
import Derived.Test.YtkbjnlbbfapgdaaDoorAcctRR
import Derived.Test.YtkbjnlbbfapgdaaDoorAcctR
set_option maxRecDepth 100000
set_option linter.unusedVariables false
set_option linter.unusedSimpArgs false
namespace Go.Proofs.YtkbjnlbbfapgdaaDoor
open Go.RowKit

def topLs (t : Nat) (ls : List Lz) : Nat := ls.foldl (fun t l => max t l.id) t
/-- the greatest Id of an open lease -/
def topL (t : Nat) (l : List Ac) : Nat := l.foldl (fun t a => topLs t a.ls) t
theorem drop_cons2 {α : Type} {xs : List α} {k : Nat} (h : k < xs.length) : xs.drop k = xs[k] :: xs.drop (k + 1) := List.drop_eq_getElem_cons h

set_option maxHeartbeats 8000000 in
theorem lgtop_calls (seq : Nat) (A : Option Addr) (c : Nat) (xs : List Ax) (w : World) (hb : RdL w A xs) (hok : ∀ x ∈ xs, x.a.ok) (hl : xs.length ≤ 100000) :
    Calls Tryd.prog 42 #[lgA seq A xs.length c] w (RetV w (.int .u64 (topL 0 (acs xs)))) := by
  have HB := Lib.hid hb
  have HOK := Lib.hid hok
  clear hb hok
  unfold lgA
  go_enter Tryd.func42, Tryd.ntmps42
  go_wp2_with (first | ((with_reducible show wpList _ _ _ ({ dst := some 1, op := Op.box 40 _, type := _, pos := _, after := _, guard := _ } :: _) _ _); refine bxA _ rfl 40 _ rfl _ rfl ?_; intro g1 w1 hg hs1 k1 e1; have X1 := Lib.hid k1; have E1 := Lib.hid e1; obtain ⟨a0, a1⟩ := lg_cells k1; clear hg hs1 k1 e1))
  clear a0 a1
  go_loopw [3, 11] (fun n i wr => ∃ k N : Nat, k ≤ xs.length ∧ n = .int .u64 N ∧ i = .int .i64 k ∧ Ext w1 wr ∧ N < 18446744073709551616 ∧ topL N ((acs xs).drop k) = topL 0 (acs xs)) (fun _ i _ => xs.length - (intOf i).toNat)
  case atStart => exact ⟨0, 0, by omega, rfl, rfl, Ext.refl _, by decide, rfl⟩
  case round =>
    obtain ⟨k, N, hk, rfl, rfl, hE, hN, hr⟩ := hrel
    have HR := Lib.hid hr
    have HNN := Lib.hid hN
    have E2 := Lib.hid hE
    have F2 := Lib.hid (E1.out.trans hE)
    clear hr hE hN
    by_cases hlt : k < xs.length
    · have HX := Lib.hid ((HB.out.each _ (List.getElem_mem hlt)).ext F2.out)
      have OX := Lib.hid (HOK.out _ (List.getElem_mem hlt))
      have k1 : (k : Int) < (xs.length : Int) := by omega
      have HD : Hid ((acs xs).drop k = xs[k].a :: (acs xs).drop (k + 1)) := by
        show _ = _
        rw [drop_cons2 (by simpa using hlt)]; simp [acs]
      obtain ⟨ad, rfl, x0, x1, x2, x3, x4, x5, x6⟩ := (HB.out.rd.ext F2.out).seven hlt
      generalize xs[k] = x at *
      have HRD : Hid (RdE Lz.cs wr x.AL x.a.ls) := Lib.hid HX.out.rd.1
      clear HX
      generalize x.AL = AL at *
      have HR2 : Hid (topL (topLs N x.a.ls) ((acs xs).drop (k + 1)) = topL 0 (acs xs)) := by
        show _ = _
        rw [← HR.out, HD.out]; rfl
      have HLL := Lib.hid OX.out.2.2.2.2.2.2.2.1
      go_wp2_with (first
        | ((with_reducible show wpList _ _ _ ({ dst := some 5, op := Op.alloc 26, type := _, pos := _, after := _, guard := _ } :: _) _ _); refine alA _ rfl 26 rfl _ _ zero_acct ?_; intro g5 w5 hg hs1 k3 e3; have X5 := Lib.hid k3; have T5 := Lib.hid e3; have G5 := Lib.hid (Nat.le_of_eq hg); clear hg hs1 k3 e3 x0 x1 x2 x3 x4 x5 x6)
        | ((with_reducible show wpList _ _ _ ({ dst := none, op := Op.store 26 _ _, type := _, pos := _, after := _, guard := _ } :: _) _ _); refine stA _ rfl 26 26 _ _ rfl g5 _ (acV x.a AL x.cL x.AC x.cC) rfl rfl X5.out size_acct rfl (ac_one _ _ _ _ _) ?_; intro w6 hs k4 g4; have T6 := Lib.hid (show Ext wr w6 from T5.out.grown g4 (fun k hk => by injection hk with hk; have := G5.out; omega)); have X6 := Lib.hid k4; obtain ⟨y0, y1, y2, y3, y4, y5, y6⟩ := ac_cells k4; clear hs k4 g4))
      clear y0 y1 y2 y3 y4 y5 y6
      go_loopw [3, 18] (fun n i wr2 => ∃ j M : Nat, j ≤ x.a.ls.length ∧ n = .int .u64 M ∧ i = .int .i64 j ∧ Ext w6 wr2 ∧ M < 18446744073709551616 ∧ topLs M (x.a.ls.drop j) = topLs N x.a.ls) (fun _ i _ => x.a.ls.length - (intOf i).toNat)
      case atStart => exact ⟨0, N, by omega, rfl, rfl, Ext.refl _, HNN.out, rfl⟩
      case round =>
        obtain ⟨j, M, hj, rfl, rfl, hE, hM, hr⟩ := hrel
        have HS := Lib.hid hr
        have HMM := Lib.hid hM
        have E7 := Lib.hid (T6.out.trans hE)
        have F7 := Lib.hid hE
        clear hr hE hM
        by_cases hjl : j < x.a.ls.length
        · obtain ⟨ad2, rfl, z0, z1⟩ := (HRD.out.ext E7.out).two hjl
          have HD2 := Lib.hid (drop_cons2 hjl)
          have hid := (OX.out.2.2.2.2.2.1 _ (List.getElem_mem hjl)).1
          have kj : (j : Int) < (x.a.ls.length : Int) := by omega
          have hjb : j < 100001 := by have := HLL.out; omega
          generalize x.a.ls[j] = y at *
          have HS2 : Hid (topLs (max M y.id) (x.a.ls.drop (j + 1)) = topLs N x.a.ls) := by
            show _ = _
            rw [← HS.out, HD2.out]; rfl
          have HM2 : Hid (max M y.id < 18446744073709551616) := by have := HMM.out; show _ < _; omega
          have umx : max (M : Int) (y.id : Int) = ((max M y.id : Nat) : Int) := by omega
          clear hid
          go_wp2_with (first
            | ((with_reducible show wpList _ _ _ ({ dst := some 7, op := Op.alloc 64, type := _, pos := _, after := _, guard := _ } :: _) _ _); refine alA _ rfl 64 rfl _ _ zero_lease ?_; intro g3 w7 hg hs1 k3 e3; have X7 := Lib.hid k3; have E8 := Lib.hid (F7.out.trans e3); have G3 := Lib.hid (show w6.heap.size ≤ g3 from by have := F7.out.size; omega); clear hg hs1 k3 e3 z0 z1)
            | ((with_reducible show wpList _ _ _ ({ dst := none, op := Op.store 64 _ _, type := _, pos := _, after := _, guard := _ } :: _) _ _); refine stA _ rfl 64 64 _ _ rfl g3 _ (lzV y) rfl rfl X7.out size_lease rfl (lzV_one _) ?_; intro w8 hs k4 g4; have E9 := Lib.hid (E8.out.grown g4 (fun k hk => by injection hk with hk; have := G3.out; omega)); obtain ⟨z0, z1⟩ := lz_cells k4; clear hs k4 g4))
          go_roundw
          case rel => exact ⟨j + 1, max M y.id, by omega, by first | rfl | (congr 1; omega), by go_num, E9.out, HM2.out, HS2.out⟩
          case measure => simp [intOf]; omega
        · have HFF : Hid (topLs N x.a.ls = M) := by
            show _ = _
            rw [← HS.out, List.drop_of_length_le (by omega)]; rfl
          have kj : ¬ (j : Int) < (x.a.ls.length : Int) := by omega
          go_wp2_with fail
          go_roundw
          case rel => exact ⟨k + 1, M, by omega, rfl, by go_num, E2.out.trans E7.out, HMM.out, by rw [← HFF.out]; exact HR2.out⟩
          case measure => simp [intOf]; omega
    · have HFF : Hid (topL 0 (acs xs) = N) := by
        show _ = _
        rw [← HR.out, List.drop_of_length_le (by simp; omega)]; rfl
      have k1 : ¬ (k : Int) < (xs.length : Int) := by omega
      go_wp2_with fail
      go_ret
      rw [HFF.out]
      exact ⟨rfl, F2.out⟩
end Go.Proofs.YtkbjnlbbfapgdaaDoor

namespace Go.Proofs.YtkbjnlbbfapgdaaDoor
open Go.RowKit

/-- the records that settle open leases with all their size -/
def openLs (ten : ByteArray) (st : Nat × List Rc) (ls : List Lz) : Nat × List Rc := ls.foldl (fun st l => ((st.1 + 1) % 18446744073709551616, st.2 ++ [⟨(st.1 + 1) % 18446744073709551616, 4, ten, l.id, l.sz, 0⟩])) st
def openL (st : Nat × List Rc) (l : List Ac) : Nat × List Rc := l.foldl (fun st a => openLs a.ten st a.ls) st
theorem info_rc : (Tryd.prog.info? 28).map (fun i => (i.zero, i.size, i.bytes)) = some (some (.agg #[.int .u64 0, .int .i64 0, .string ByteArray.empty, .int .u64 0, .int .u64 0, .int .u64 0]), 6, 56) := by kernel_rfl
theorem rcs_one (r : Rc) : ∀ v ∈ rcs r, v.oneCell' = true := by
  intro v hv
  simp [rcs] at hv
  rcases hv with rfl | rfl | rfl | rfl | rfl | rfl <;> rfl

set_option maxHeartbeats 8000000 in
theorem lgopen_calls (seq : Nat) (A : Option Addr) (c : Nat) (xs : List Ax) (w : World) (hb : RdL w A xs) (hok : ∀ x ∈ xs, x.a.ok) (hlk : ∀ x ∈ xs, x.a.ls.length ≤ 40) (hl : xs.length ≤ 100) (hs : seq < 18446744073709551616) :
    Calls Tryd.prog 40 #[lgA seq A xs.length c] w (fun e w' => ∃ A' c', e = .returned (.slice A' (openL (seq, []) (acs xs)).2.length c') ∧ OwnV w' w.heap.size 28 6 A' (openL (seq, []) (acs xs)).2.length c' ((openL (seq, []) (acs xs)).2.flatMap rcs) ∧ Ext w w') := by
  have HB := Lib.hid hb
  have HOK := Lib.hid hok
  have HLK := Lib.hid hlk
  have HSQ := Lib.hid hs
  clear hb hok hlk hs
  obtain ⟨F, hF⟩ : ∃ F, F = openL (seq, []) (acs xs) := ⟨_, rfl⟩
  rw [← hF]
  have HF := Lib.hid hF
  clear hF
  unfold lgA
  go_enter Tryd.func40, Tryd.ntmps40
  go_wp2_with (first | ((with_reducible show wpList _ _ _ ({ dst := some 1, op := Op.box 40 _, type := _, pos := _, after := _, guard := _ } :: _) _ _); refine bxA _ rfl 40 _ rfl _ rfl ?_; intro g1 w1 hg hs1 k1 e1; have X1 := Lib.hid k1; have E1 := Lib.hid e1; obtain ⟨a0, a1⟩ := lg_cells k1; clear hg hs1 k1 e1))
  clear a0 a1
  go_loopw [3, 4, 14] (fun n q i wr => ∃ k sq A' c', ∃ R : List Rc, k ≤ xs.length ∧ n = .slice A' R.length c' ∧ q = .int .u64 (sq : Nat) ∧ i = .int .i64 (k : Nat) ∧ Ext w1 wr ∧ sq < 18446744073709551616 ∧ R.length ≤ 40 * k ∧ OwnV wr w1.heap.size 28 6 A' R.length c' (R.flatMap rcs) ∧ openL (sq, R) ((acs xs).drop k) = F) (fun _ _ i _ => xs.length - (intOf i).toNat)
  case atStart => exact ⟨0, seq, none, 0, [], by omega, rfl, rfl, rfl, Ext.refl _, HSQ.out, by simp, OwnV.nil _ _ _ _, by rw [HF.out]; rfl⟩
  case round =>
    obtain ⟨k, sq, A', c', R, hk, rfl, rfl, rfl, hE, hsq, hRl, hO, hr⟩ := hrel
    have HR := Lib.hid hr
    have HSQ2 := Lib.hid hsq
    have HRL := Lib.hid hRl
    have E2 := Lib.hid hE
    have F2 := Lib.hid (E1.out.trans hE)
    have O2 := Lib.hid hO
    clear hr hE hsq hRl hO
    by_cases hlt : k < xs.length
    · have HX := Lib.hid (HB.out.each _ (List.getElem_mem hlt))
      have OX := Lib.hid (HOK.out _ (List.getElem_mem hlt))
      have k1 : (k : Int) < (xs.length : Int) := by omega
      have HD : Hid ((acs xs).drop k = xs[k].a :: (acs xs).drop (k + 1)) := by
        show _ = _
        rw [drop_cons2 (by simpa using hlt)]; simp [acs]
      have HLL := Lib.hid (HLK.out _ (List.getElem_mem hlt))
      obtain ⟨ad, rfl, x0, x1, x2, x3, x4, x5, x6⟩ := (HB.out.rd.ext F2.out).seven hlt
      generalize xs[k] = x at *
      have HRD : Hid (RdE Lz.cs w x.AL x.a.ls) := Lib.hid HX.out.rd.1
      clear HX
      generalize x.AL = AL at *
      have HR2 : Hid (openL (openLs x.a.ten (sq, R) x.a.ls) ((acs xs).drop (k + 1)) = F) := by
        show _ = _
        rw [← HR.out, HD.out]; rfl
      go_wp2_with (first
        | ((with_reducible show wpList _ _ _ ({ dst := some 6, op := Op.alloc 26, type := _, pos := _, after := _, guard := _ } :: _) _ _); refine alA _ rfl 26 rfl _ _ zero_acct ?_; intro g5 w5 hg hs1 k3 e3; have X5 := Lib.hid k3; have T5 := Lib.hid e3; have G5 := Lib.hid (Nat.le_of_eq hg); clear hg hs1 k3 e3 x0 x1 x2 x3 x4 x5 x6)
        | ((with_reducible show wpList _ _ _ ({ dst := none, op := Op.store 26 _ _, type := _, pos := _, after := _, guard := _ } :: _) _ _); refine stA _ rfl 26 26 _ _ rfl g5 _ (acV x.a AL x.cL x.AC x.cC) rfl rfl X5.out size_acct rfl (ac_one _ _ _ _ _) ?_; intro w6 hs k4 g4; have T6 := Lib.hid (show Ext wr w6 from T5.out.grown g4 (fun k hk => by injection hk with hk; have := G5.out; omega)); have X6 := Lib.hid k4; obtain ⟨y0, y1, y2, y3, y4, y5, y6⟩ := ac_cells k4; clear hs k4 g4))
      clear y0 y1 y2 y3 y4 y5 y6
      have B6 : Hid (w1.heap.size ≤ wr.heap.size) := E2.out.size
      have O6 := Lib.hid (O2.out.ext T6.out)
      go_loopw [3, 4, 21] (fun n q i wr2 => ∃ j sj A2 c2, ∃ S : List Rc, j ≤ x.a.ls.length ∧ n = .slice A2 S.length c2 ∧ q = .int .u64 (sj : Nat) ∧ i = .int .i64 (j : Nat) ∧ Ext w1 wr2 ∧ Arr wr2 g5 26 (acV x.a AL x.cL x.AC x.cC) ∧ w6.heap.size ≤ wr2.heap.size ∧ sj < 18446744073709551616 ∧ S.length ≤ 40 * k + j ∧ OwnV wr2 w1.heap.size 28 6 A2 S.length c2 (S.flatMap rcs) ∧ Off A2 g5 ∧ openLs x.a.ten (sj, S) (x.a.ls.drop j) = openLs x.a.ten (sq, R) x.a.ls) (fun _ _ i _ => x.a.ls.length - (intOf i).toNat)
      case atStart => exact ⟨0, sq, A', c', R, by omega, rfl, rfl, rfl, E2.out.trans T6.out, X6.out, Nat.le_refl _, HSQ2.out, HRL.out, O6.out, fun q hq => by have := O2.out.base_ q hq; have := G5.out; omega, rfl⟩
      case round =>
        obtain ⟨j, sj, A2, c2, S, hj, rfl, rfl, rfl, e7, x7, s7, hsj, hSl, o7, f7, hr⟩ := hrel
        have HS := Lib.hid hr
        have E7 := Lib.hid e7
        have X7 := Lib.hid x7
        have S7 := Lib.hid s7
        have HSJ := Lib.hid hsj
        have O7 := Lib.hid o7
        have F7 := Lib.hid f7
        have HSL := Lib.hid hSl
        clear hr e7 x7 s7 hsj o7 f7 hSl
        have D7 := Lib.hid (E1.out.trans E7.out)
        by_cases hjl : j < x.a.ls.length
        · obtain ⟨ad2, rfl, z0, z1⟩ := (HRD.out.ext D7.out).two hjl
          have HD2 := Lib.hid (drop_cons2 hjl)
          have kj : (j : Int) < (x.a.ls.length : Int) := by omega
          have hjb : j < 100001 := by have := HLL.out; omega
          have hsl : S.length ≤ 5000 := by have := HSL.out; have := HLL.out; omega
          generalize x.a.ls[j] = y at *
          have u1 : IntKind.u64.wrap ((sj : Int) + 1) = (((sj + 1) % 18446744073709551616 : Nat) : Int) := by rw [IntKind.wrap_u64]; omega
          have HQ : Hid ((sj + 1) % 18446744073709551616 < 18446744073709551616) := by show _ < _; omega
          have HS2 : Hid (openLs x.a.ten ((sj + 1) % 18446744073709551616, S ++ [⟨(sj + 1) % 18446744073709551616, 4, x.a.ten, y.id, y.sz, 0⟩]) (x.a.ls.drop (j + 1)) = openLs x.a.ten (sq, R) x.a.ls) := by
            show _ = _
            rw [← HS.out, HD2.out]; rfl
          generalize (sj + 1) % 18446744073709551616 = qn at *
          obtain ⟨y0, y1, y2, y3, y4, y5, y6⟩ := ac_cells X7.out
          go_wp2_with (first
            | ((with_reducible show wpList _ _ _ ({ dst := some 8, op := Op.alloc 64, type := _, pos := _, after := _, guard := _ } :: _) _ _); refine alA _ rfl 64 rfl _ _ zero_lease ?_; intro g3 w7 hg hs1 k3 e3; have X8 := Lib.hid k3; have T8 := Lib.hid e3; have G3 := Lib.hid (Nat.le_of_eq hg); clear hg hs1 k3 e3 z0 z1 y0 y1 y2 y3 y4 y5 y6)
            | ((with_reducible show wpList _ _ _ ({ dst := none, op := Op.store 64 _ _, type := _, pos := _, after := _, guard := _ } :: _) _ _); refine stA _ rfl 64 64 _ _ rfl g3 _ (lzV y) rfl rfl X8.out size_lease rfl (lzV_one _) ?_; intro w8 hs k4 g4; have T9 := Lib.hid (T8.out.grown g4 (fun _ hk => Nat.le_trans G3.out (Nat.le_of_eq (Option.some.inj hk)))); obtain ⟨z0, z1⟩ := lz_cells k4; obtain ⟨y0, y1, y2, y3, y4, y5, y6⟩ := ac_cells (X7.out.ext T9.out); clear hs k4 g4)
            | (at_builtin; refine appV _ rfl _ _ 59 rfl 28 (.agg #[.int .u64 0, .int .i64 0, .string ByteArray.empty, .int .u64 0, .int .u64 0, .int .u64 0]) 6 56 Tryd.underlying59 info_rc rfl (by decide) w1.heap.size A2 S.length c2 (S.flatMap rcs) rfl ⟨w8.heap.size, 0, none⟩ 1 1 [.int .u64 qn, .int .i64 4, .string x.a.ten, .int .u64 y.id, .int .u64 y.sz, .int .u64 0] rfl ?_ ((O7.out.ext T9.out).ext ((Ext.refl _).alloc _)) rfl (cells_new w8 _ _) (by intro u hu; simp at hu; rcases hu with rfl | rfl | rfl | rfl | rfl | rfl <;> rfl) (by omega) (by omega) (by have := E7.out.size; have := T9.out.size; simp; omega); intro A9 c9 w9 h9 g9 b9; have O9 := Lib.hid h9; have E9 := Lib.hid (own_base (E7.out.trans T9.out) (O7.out.ext T9.out) ((Ext.refl _).alloc _) (Nat.le_refl _) g9); have X9 := Lib.hid (((X7.out.ext T9.out).ext ((Ext.refl _).alloc _)).off g9 F7.out); have S9 : Hid (w6.heap.size ≤ w9.heap.size) := Nat.le_trans S7.out (Nat.le_trans T9.out.size (Nat.le_trans (by simp) g9.size)); have F9 : Hid (Off A9 g5) := (fun q hq => b9.elim (fun hb => F7.out q (hb ▸ hq)) (fun hb => by rw [hb] at hq; injection hq with hq; have := (X7.out.ext T9.out).lt; simp at hq; omega)); clear h9 g9 b9 y0 y1 y2 y3 y4 y5 y6 z0 z1))
          go_roundw
          case rel => exact ⟨j + 1, qn, A9, c9, S ++ [⟨qn, 4, x.a.ten, y.id, y.sz, 0⟩], by omega, by simp, rfl, by go_num, E9.out, X9.out, S9.out, HQ.out, by simp; have := HSL.out; omega, by simpa [rcs] using O9.out, F9.out, HS2.out⟩
          case measure => simp [intOf]; omega
        · have HFF : Hid (openLs x.a.ten (sq, R) x.a.ls = (sj, S)) := by
            show _ = _
            rw [← HS.out, List.drop_of_length_le (by omega)]; rfl
          have kj : ¬ (j : Int) < (x.a.ls.length : Int) := by omega
          go_wp2_with fail
          go_roundw
          case rel => exact ⟨k + 1, sj, A2, c2, S, by omega, rfl, rfl, by go_num, E7.out, HSJ.out, by have := HSL.out; have := HLL.out; omega, O7.out, by rw [← HFF.out]; exact HR2.out⟩
          case measure => simp [intOf]; omega
    · have HFF : Hid (F = (sq, R)) := by
        show _ = _
        rw [← HR.out, List.drop_of_length_le (by simp; omega)]; rfl
      have k1 : ¬ (k : Int) < (xs.length : Int) := by omega
      go_wp2_with fail
      go_ret
      have hf := HFF.out
      subst hf
      exact ⟨A', c', rfl, O2.out.lower (by have := E1.out.size; omega), F2.out⟩
end Go.Proofs.YtkbjnlbbfapgdaaDoor

namespace Go.Proofs.YtkbjnlbbfapgdaaDoor
open Go.RowKit

theorem RdL.cells_at {w : World} {A : Option Addr} {xs : List Ax} (h : RdL w A xs) {i : Nat} (hi : i < xs.length) : ∃ ad, A = some ad ∧ ∀ W, Ext w W → W.cell? (ad.add (i * 7)) = some (.string xs[i].a.ten) ∧ W.cell? ⟨(ad.add (i * 7)).block, (ad.add (i * 7)).off + 1, none⟩ = some (.int .u64 xs[i].a.cap) ∧ W.cell? ⟨(ad.add (i * 7)).block, (ad.add (i * 7)).off + 2, none⟩ = some (.int .u64 xs[i].a.used) ∧
    W.cell? ⟨(ad.add (i * 7)).block, (ad.add (i * 7)).off + 3, none⟩ = some (.int .u64 xs[i].a.bits) ∧ W.cell? ⟨(ad.add (i * 7)).block, (ad.add (i * 7)).off + 4, none⟩ = some (.int .u64 xs[i].a.per) ∧ W.cell? ⟨(ad.add (i * 7)).block, (ad.add (i * 7)).off + 5, none⟩ = some (.slice xs[i].AL xs[i].a.ls.length xs[i].cL) ∧ W.cell? ⟨(ad.add (i * 7)).block, (ad.add (i * 7)).off + 6, none⟩ = some (.slice xs[i].AC xs[i].a.cl.length xs[i].cC) := by
  obtain ⟨ad, ha, _⟩ := h.rd.seven hi
  refine ⟨ad, ha, fun W e => ?_⟩
  obtain ⟨ad', h1, h2⟩ := (h.rd.ext e).seven hi
  rw [ha] at h1
  injection h1 with h1
  subst h1
  exact h2

set_option maxHeartbeats 8000000 in
theorem rlsame_calls (sa sb : Nat) (A B : Option Addr) (c d : Nat) (xs ys : List Ax) (w : World) (hx : RdL w A xs) (hy : RdL w B ys) (hxo : ∀ x ∈ xs, x.a.ok) (hyo : ∀ x ∈ ys, x.a.ok) (hl : xs.length ≤ 100000) :
    Calls Tryd.prog 29 #[lgA sa A xs.length c, lgA sb B ys.length d] w (RetV w (.bool (decide (sa = sb ∧ acs xs = acs ys)))) := by
  have HX := Lib.hid hx
  have HY := Lib.hid hy
  have HXO := Lib.hid hxo
  have HYO := Lib.hid hyo
  clear hx hy hxo hyo
  unfold lgA
  by_cases hs : sa = sb
  case neg =>
    rw [decide_eq_false (fun h => hs h.1)]
    have q1 : ((sa : Int) != (sb : Int)) = true := by simp; omega
    clear hs
    go_enter Tryd.func29, Tryd.ntmps29
    go_wp2_with (first
      | ((with_reducible show wpList _ _ _ ({ dst := some 2, op := Op.box 40 _, type := _, pos := _, after := _, guard := _ } :: _) _ _); refine bxA _ rfl 40 _ rfl _ rfl ?_; intro g1 w1 hg hs1 k1 e1; have X0 := Lib.hid k1; have E0 := Lib.hid e1; clear hg hs1 k1 e1)
      | ((with_reducible show wpList _ _ _ ({ dst := some 3, op := Op.box 40 _, type := _, pos := _, after := _, guard := _ } :: _) _ _); refine bxA _ rfl 40 _ rfl _ rfl ?_; intro g3 w3 hg hs1 k1 e1; have Y1 := Lib.hid k1; have X1 := Lib.hid (X0.out.ext e1); have E1 := Lib.hid (E0.out.trans e1); obtain ⟨a0, a1⟩ := lg_cells X1.out; obtain ⟨c0, c1⟩ := lg_cells k1; clear hg hs1 k1 e1 X0 E0))
    go_ret
    exact ⟨rfl, E1.out⟩
  case pos =>
  by_cases hn : xs.length = ys.length
  case neg =>
    rw [decide_eq_false (fun h => hn (by have := congrArg List.length h.2; simpa using this))]
    have q1 : ((sa : Int) != (sb : Int)) = false := by simp [hs]
    have q2 : ((xs.length : Int) != (ys.length : Int)) = true := by simp; omega
    clear hs hn
    go_enter Tryd.func29, Tryd.ntmps29
    go_wp2_with (first
      | ((with_reducible show wpList _ _ _ ({ dst := some 2, op := Op.box 40 _, type := _, pos := _, after := _, guard := _ } :: _) _ _); refine bxA _ rfl 40 _ rfl _ rfl ?_; intro g1 w1 hg hs1 k1 e1; have X0 := Lib.hid k1; have E0 := Lib.hid e1; clear hg hs1 k1 e1)
      | ((with_reducible show wpList _ _ _ ({ dst := some 3, op := Op.box 40 _, type := _, pos := _, after := _, guard := _ } :: _) _ _); refine bxA _ rfl 40 _ rfl _ rfl ?_; intro g3 w3 hg hs1 k1 e1; have Y1 := Lib.hid k1; have X1 := Lib.hid (X0.out.ext e1); have E1 := Lib.hid (E0.out.trans e1); obtain ⟨a0, a1⟩ := lg_cells X1.out; obtain ⟨c0, c1⟩ := lg_cells k1; clear hg hs1 k1 e1 X0 E0))
    go_ret
    exact ⟨rfl, E1.out⟩
  case pos =>
    have HNN := Lib.hid hn
    have HT : Hid ((∀ j (h : j < xs.length) (h2 : j < ys.length), xs[j].a = ys[j].a) → decide (sa = sb ∧ acs xs = acs ys) = true) := fun h => decide_eq_true ⟨hs, List.ext_getElem (by simpa using hn) (fun j h1 h2 => by simpa [acs] using h j (by simpa using h1) (by simpa using h2))⟩
    have HF : Hid (∀ j (h : j < xs.length) (h2 : j < ys.length), xs[j].a ≠ ys[j].a → decide (sa = sb ∧ acs xs = acs ys) = false) := fun j h h2 hne => decide_eq_false (fun he => hne (by
      have := congrArg (fun l => l[j]?) he.2
      rw [acs_get h, acs_get h2] at this
      injection this))
    have q1 : ((sa : Int) != (sb : Int)) = false := by simp [hs]
    have q2 : ((xs.length : Int) != (ys.length : Int)) = false := by simp [hn]
    generalize decide (sa = sb ∧ acs xs = acs ys) = R at *
    clear hs hn
    go_enter Tryd.func29, Tryd.ntmps29
    go_wp2_with (first
      | ((with_reducible show wpList _ _ _ ({ dst := some 2, op := Op.box 40 _, type := _, pos := _, after := _, guard := _ } :: _) _ _); refine bxA _ rfl 40 _ rfl _ rfl ?_; intro g1 w1 hg hs1 k1 e1; have X0 := Lib.hid k1; have E0 := Lib.hid e1; clear hg hs1 k1 e1)
      | ((with_reducible show wpList _ _ _ ({ dst := some 3, op := Op.box 40 _, type := _, pos := _, after := _, guard := _ } :: _) _ _); refine bxA _ rfl 40 _ rfl _ rfl ?_; intro g3 w3 hg hs1 k1 e1; have Y1 := Lib.hid k1; have X1 := Lib.hid (X0.out.ext e1); have E1 := Lib.hid (E0.out.trans e1); obtain ⟨a0, a1⟩ := lg_cells X1.out; obtain ⟨c0, c1⟩ := lg_cells k1; clear hg hs1 k1 e1 X0 E0))
    clear a0 a1 c0 c1 q1 q2
    go_loopw [5] (fun i wr => ∃ k : Nat, k ≤ xs.length ∧ i = .int .i64 k ∧ Ext w3 wr ∧ (∀ j (h : j < xs.length) (h2 : j < ys.length), j < k → xs[j].a = ys[j].a)) (fun i _ => xs.length - (intOf i).toNat)
    case atStart => exact ⟨0, by omega, rfl, Ext.refl _, fun j h h2 hj => by omega⟩
    case round =>
      obtain ⟨k, hk, rfl, hE, hr⟩ := hrel
      have HR := Lib.hid hr
      have E2 := Lib.hid hE
      have F2 := Lib.hid (E1.out.trans hE)
      have X2 := Lib.hid (X1.out.ext hE)
      have Y2 := Lib.hid (Y1.out.ext hE)
      clear hr hE
      obtain ⟨a0, a1⟩ := lg_cells X2.out
      by_cases hlt : k < xs.length
      · have hlt2 : k < ys.length := by have := HNN.out; omega
        have k1 : (k : Int) < (xs.length : Int) := by omega
        have k2 : (k : Int) < (ys.length : Int) := by omega
        obtain ⟨ad, hA, hxc⟩ := (⟨HX.out.rd.ext F2.out, fun x hx => (HX.out.each x hx).ext F2.out⟩ : RdL wr A xs).cells_at hlt
        obtain ⟨bd, hB, hyc⟩ := (⟨HY.out.rd.ext F2.out, fun x hx => (HY.out.each x hx).ext F2.out⟩ : RdL wr B ys).cells_at hlt2
        have hxi := (HX.out.each _ (List.getElem_mem hlt)).ext F2.out
        have hyi := (HY.out.each _ (List.getElem_mem hlt2)).ext F2.out
        have hx5 := HXO.out _ (List.getElem_mem hlt)
        have hy5 := HYO.out _ (List.getElem_mem hlt2)
        have HFk := Lib.hid (HF.out k hlt hlt2)
        have HRk : Hid (xs[k].a = ys[k].a → ∀ j (h : j < xs.length) (h2 : j < ys.length), j < k + 1 → xs[j].a = ys[j].a) := fun h j hj hj2 hjk => by
          rcases Nat.lt_or_ge j k with h2 | h2
          · exact HR.out j hj hj2 h2
          · obtain rfl : j = k := by omega
            exact h
        subst hA hB
        generalize xs[k] = x at *
        generalize ys[k] = y at *
        have HSM : Hid (∀ W, Ext wr W → Calls Tryd.prog 20 #[(.agg #[.string x.a.ten, .int .u64 x.a.cap, .int .u64 x.a.used, .int .u64 x.a.bits, .int .u64 x.a.per, .slice x.AL x.a.ls.length x.cL, .slice x.AC x.a.cl.length x.cC]), (.agg #[.string y.a.ten, .int .u64 y.a.cap, .int .u64 y.a.used, .int .u64 y.a.bits, .int .u64 y.a.per, .slice y.AL y.a.ls.length y.cL, .slice y.AC y.a.cl.length y.cC])] W (RetV W (.bool (decide (x.a = y.a))))) := fun W e => rasame_calls x.a y.a x.AL x.AC y.AL y.AC x.cL x.cC y.cL y.cC W (hxi.ext e).rd (hyi.ext e).rd hx5.2.2.2.2.2.2.2.1 hx5.2.2.2.2.2.2.2.2 hy5.2.2.2.2.2.2.2.1 hy5.2.2.2.2.2.2.2.2
        have KS : Hid (∀ W, Ext wr W → _) := fun W e => And.intro ((X2.out.ext e).cell 1) (And.intro ((Y2.out.ext e).cell 1) (And.intro (hxc W e) (hyc W e)))
        clear hxc hyc hxi hyi hx5 hy5
        by_cases he : x.a = y.a
        · have HRR := Lib.hid (HRk.out he)
          rw [decide_eq_true he] at HSM
          clear HRk HFk he
          go_wp2_with fail
          refine wp_region_quietE wr (Ext.refl _) (by kernel_rfl) (by kernel_rfl) ?_
          repeat (first | (apply wpq_skip; (focus rfl); (try simp only [Act.put, List.setIfInBounds_toArray, List.set_cons_zero, List.set_cons_succ])) | ((with_reducible show QGoal _ _ _ _ ({ dst := _, op := Op.call { callee := Callee.value (Operand.func 20), args := _, argTypes := _ }, type := _, pos := _, after := _, guard := _ } :: _) _); apply wpq_call (hc := HSM.out); (focus rfl); (focus (intro W hW; go_simp; (first | done | with_reducible rfl))); (try simp only [Act.put, List.setIfInBounds_toArray, List.set_cons_zero, List.set_cons_succ])) | (apply wpq_take; (focus rfl); (focus (intro W hW; obtain ⟨b1, d1, ⟨x0, x1, x2, x3, x4, x5, x6⟩, ⟨y0, y1, y2, y3, y4, y5, y6⟩⟩ := KS.out W hW; go_simp; (first | done | with_reducible rfl))); (try simp only [Act.put, List.setIfInBounds_toArray, List.set_cons_zero, List.set_cons_succ])))
          refine wpq_nil ?_
          intro w9 S9
          go_wp2_with fail
          go_roundw
          case rel => exact ⟨k + 1, by omega, by go_num, E2.out.trans S9, HRR.out⟩
          case measure => simp [intOf]; omega
        · have HFF := Lib.hid (HFk.out he)
          rw [decide_eq_false he] at HSM
          clear HRk HFk he
          go_wp2_with fail
          refine wp_region_quietE wr (Ext.refl _) (by kernel_rfl) (by kernel_rfl) ?_
          repeat (first | (apply wpq_skip; (focus rfl); (try simp only [Act.put, List.setIfInBounds_toArray, List.set_cons_zero, List.set_cons_succ])) | ((with_reducible show QGoal _ _ _ _ ({ dst := _, op := Op.call { callee := Callee.value (Operand.func 20), args := _, argTypes := _ }, type := _, pos := _, after := _, guard := _ } :: _) _); apply wpq_call (hc := HSM.out); (focus rfl); (focus (intro W hW; go_simp; (first | done | with_reducible rfl))); (try simp only [Act.put, List.setIfInBounds_toArray, List.set_cons_zero, List.set_cons_succ])) | (apply wpq_take; (focus rfl); (focus (intro W hW; obtain ⟨b1, d1, ⟨x0, x1, x2, x3, x4, x5, x6⟩, ⟨y0, y1, y2, y3, y4, y5, y6⟩⟩ := KS.out W hW; go_simp; (first | done | with_reducible rfl))); (try simp only [Act.put, List.setIfInBounds_toArray, List.set_cons_zero, List.set_cons_succ])))
          refine wpq_nil ?_
          intro w9 S9
          go_wp2_with fail
          go_ret
          rw [HFF.out]
          exact ⟨rfl, F2.out.trans S9⟩
      · have HFF := Lib.hid (HT.out (fun j h h2 => HR.out j h h2 (by omega)))
        have k1 : ¬ (k : Int) < (xs.length : Int) := by omega
        go_wp2_with fail
        go_ret
        rw [HFF.out]
        exact ⟨rfl, F2.out⟩
end Go.Proofs.YtkbjnlbbfapgdaaDoor

namespace Go.Proofs.YtkbjnlbbfapgdaaDoor
open Go.RowKit

/-- is a ledger right? -/
def rightL (l : List Ac) : Bool := l.all rightB && riseB l && decide (l.length ≤ 8)
set_option maxHeartbeats 8000000 in
theorem rlright_calls (seq : Nat) (A : Option Addr) (c : Nat) (xs : List Ax) (w : World) (hb : RdL w A xs) (hok : ∀ x ∈ xs, x.a.ok) (hl : xs.length ≤ 100000) :
    Calls Tryd.prog 25 #[lgA seq A xs.length c] w (RetV w (.bool (rightL (acs xs)))) := by
  have HB := Lib.hid hb
  have HOK := Lib.hid hok
  have HRI : Hid (∀ W, Ext w W → Calls Tryd.prog 32 #[.agg #[.int .u64 seq, .slice A xs.length c]] W (RetV W (.bool (riseB (acs xs))))) := fun W e => rrise_calls seq A c xs W (hb.ext e) (by omega)
  have HF : Hid (∀ k (h : k < xs.length), rightB xs[k].a = false → rightL (acs xs) = false) := fun k h hf => by
    unfold rightL
    have : (acs xs).all rightB = false := List.all_eq_false.2 ⟨xs[k].a, List.mem_map_of_mem (List.getElem_mem h), by rw [hf]; decide⟩
    rw [this]; rfl
  have HT : Hid ((∀ j (h : j < xs.length), rightB xs[j].a = true) → rightL (acs xs) = (riseB (acs xs) && decide (xs.length ≤ 8))) := fun h => by
    unfold rightL
    have : (acs xs).all rightB = true := List.all_eq_true.2 fun a ha => by
      obtain ⟨x, hx, rfl⟩ := List.mem_map.1 ha
      obtain ⟨j, hj, rfl⟩ := List.mem_iff_getElem.1 hx
      exact h j hj
    rw [this, acs_len]; rfl
  clear hb hok
  generalize rightL (acs xs) = R at *
  generalize riseB (acs xs) = RB at *
  unfold lgA
  go_enter Tryd.func25, Tryd.ntmps25
  go_wp2_with (first
    | ((with_reducible show wpList _ _ _ ({ dst := some 1, op := Op.box 40 _, type := _, pos := _, after := _, guard := _ } :: _) _ _); refine bxA _ rfl 40 _ rfl _ rfl ?_; intro g1 w1 hg hs1 k1 e1; have X1 := Lib.hid k1; have E1 := Lib.hid e1; clear hg hs1 k1 e1))
  go_loopw [3] (fun i wr => ∃ k : Nat, k ≤ xs.length ∧ i = .int .i64 k ∧ Ext w1 wr ∧ (∀ j (h : j < xs.length), j < k → rightB xs[j].a = true)) (fun i _ => xs.length - (intOf i).toNat)
  case atStart => exact ⟨0, by omega, rfl, Ext.refl _, fun j h hj => by omega⟩
  case round =>
    obtain ⟨k, hk, rfl, hE, hr⟩ := hrel
    have HR := Lib.hid hr
    have E2 := Lib.hid hE
    have F2 := Lib.hid (E1.out.trans hE)
    clear hr hE
    obtain ⟨a0, a1⟩ := lg_cells (X1.out.ext E2.out)
    by_cases hlt : k < xs.length
    · have HX := Lib.hid ((HB.out.each _ (List.getElem_mem hlt)).ext F2.out)
      have OX := Lib.hid (HOK.out _ (List.getElem_mem hlt))
      obtain ⟨ad, rfl, x0, x1, x2, x3, x4, x5, x6⟩ := (HB.out.rd.ext F2.out).seven hlt
      have k1 : (k : Int) < (xs.length : Int) := by omega
      have HFk := Lib.hid (HF.out k hlt)
      have HRk : Hid (rightB xs[k].a = true → ∀ j (h : j < xs.length), j < k + 1 → rightB xs[j].a = true) := fun h j hj hjk => by
        rcases Nat.lt_or_ge j k with h2 | h2
        · exact HR.out j hj h2
        · obtain rfl : j = k := by omega
          exact h
      generalize xs[k] = x at *
      have HRC : Hid (Calls Tryd.prog 13 #[(.agg #[.string x.a.ten, .int .u64 x.a.cap, .int .u64 x.a.used, .int .u64 x.a.bits, .int .u64 x.a.per, .slice x.AL x.a.ls.length x.cL, .slice x.AC x.a.cl.length x.cC])] wr (RetV wr (.bool (rightB x.a)))) := rright_calls x.a x.AL x.AC x.cL x.cC wr HX.out.rd OX.out
      generalize rightB x.a = b at *
      cases b with
      | false =>
        have HFF := Lib.hid (HFk.out rfl)
        clear HFk HRk
        go_wp2_with (first | (go_at_call 13; refine HRC.out.mono ?_; rintro e w5 ⟨rfl, e5⟩; have F5 := Lib.hid (F2.out.trans e5); clear e5 a0 a1))
        go_ret
        rw [HFF.out]
        exact ⟨rfl, F5.out⟩
      | true =>
        have HRR := Lib.hid (HRk.out rfl)
        clear HFk HRk
        go_wp2_with (first | (go_at_call 13; refine HRC.out.mono ?_; rintro e w5 ⟨rfl, e5⟩; have E5 := Lib.hid (E2.out.trans e5); clear e5 a0 a1))
        go_roundw
        case rel => exact ⟨k + 1, by omega, by go_num, E5.out, HRR.out⟩
        case measure => simp [intOf]; omega
    · have HFF := Lib.hid (HT.out (fun j h => HR.out j h (by omega)))
      have k1 : ¬ (k : Int) < (xs.length : Int) := by omega
      cases RB with
      | false =>
        go_wp2_with (first | (go_at_call 32; refine (HRI.out _ F2.out).mono ?_; rintro e w5 ⟨rfl, e5⟩; have F5 := Lib.hid (F2.out.trans e5); clear e5 a0 a1))
        go_ret
        rw [HFF.out]
        exact ⟨rfl, F5.out⟩
      | true =>
        go_wp2_with (first | (go_at_call 32; refine (HRI.out _ F2.out).mono ?_; rintro e w5 ⟨rfl, e5⟩; have F5 := Lib.hid (F2.out.trans e5); have EE := Lib.hid (E2.out.trans e5); obtain ⟨b0, b1⟩ := lg_cells (X1.out.ext EE.out); clear e5 a0 a1))
        go_ret
        rw [HFF.out]
        refine ⟨ret_boolW ?_, F5.out⟩
        rw [Bool.eq_iff_iff]
        simp
        try omega
end Go.Proofs.YtkbjnlbbfapgdaaDoor

namespace Go.Proofs.YtkbjnlbbfapgdaaDoor
open Go.RowKit

set_option maxHeartbeats 8000000 in
theorem lgright_calls (seq : Nat) (A : Option Addr) (c : Nat) (xs : List Ax) (w : World) (hb : RdL w A xs) (hok : ∀ x ∈ xs, x.a.ok) (hl : xs.length ≤ 100000) (hL : Laid w) :
    Calls Tryd.prog 45 #[lgA seq A xs.length c] w (RetV w (.bool (rightL (acs xs)))) := by
  have HB := Lib.hid hb
  have HOK := Lib.hid hok
  have HL := Lib.hid hL
  have H8 : Hid (8 < xs.length → rightL (acs xs) = false) := fun h => by
    unfold rightL
    rw [acs_len, decide_eq_false (by omega)]
    simp
  have HF : Hid (∀ k (h : k < xs.length), rightB xs[k].a = false → rightL (acs xs) = false) := fun k h hf => by
    unfold rightL
    have : (acs xs).all rightB = false := List.all_eq_false.2 ⟨xs[k].a, List.mem_map_of_mem (List.getElem_mem h), by rw [hf]; decide⟩
    rw [this]; rfl
  have HFR : Hid (∀ m (h : m + 1 < xs.length), ¬ cB xs[m].a.nm xs[m + 1].a.nm < 0 → rightL (acs xs) = false) := fun m h hn => by
    unfold rightL
    have : riseB (acs xs) = false := by
      cases hr : riseB (acs xs) with
      | false => rfl
      | true => exact absurd (by have := (riseB_adj _).1 hr m (by simpa using h); simpa [acs] using this) hn
    rw [this]; simp
  have HT : Hid (¬ 8 < xs.length → (∀ j (h : j < xs.length), rightB xs[j].a = true) → (∀ j (h : j + 1 < xs.length), cB xs[j].a.nm xs[j + 1].a.nm < 0) → rightL (acs xs) = true) := fun h8 h h2 => by
    unfold rightL
    have e1 : (acs xs).all rightB = true := List.all_eq_true.2 fun a ha => by
      obtain ⟨x, hx, rfl⟩ := List.mem_map.1 ha
      obtain ⟨j, hj, rfl⟩ := List.mem_iff_getElem.1 hx
      exact h j hj
    have e2 : riseB (acs xs) = true := (riseB_adj _).2 (fun j hj => by have := h2 j (by simpa using hj); simpa [acs] using this)
    rw [e1, e2, acs_len, decide_eq_true (by omega)]; rfl
  clear hb hok hL
  generalize rightL (acs xs) = R at *
  unfold lgA
  go_enter Tryd.func45, Tryd.ntmps45
  by_cases h8 : 8 < xs.length
  · have HFF := Lib.hid (H8.out h8)
    have q8 : decide ((8 : Int) < (xs.length : Int)) = true := decide_eq_true (by omega)
    clear h8
    go_wp2_with (first | ((with_reducible show wpList _ _ _ ({ dst := some 1, op := Op.box 40 _, type := _, pos := _, after := _, guard := _ } :: _) _ _); refine bxA _ rfl 40 _ rfl _ rfl ?_; intro g1 w1 hg hs1 k1 e1; have X1 := Lib.hid k1; have E1 := Lib.hid e1; obtain ⟨a0, a1⟩ := lg_cells k1; clear hg hs1 k1 e1))
    go_ret
    rw [HFF.out]
    exact ⟨rfl, E1.out⟩
  have q8 : decide ((8 : Int) < (xs.length : Int)) = false := decide_eq_false (by omega)
  have HT := Lib.hid (HT.out h8)
  clear h8 H8
  go_wp2_with (first | ((with_reducible show wpList _ _ _ ({ dst := some 1, op := Op.box 40 _, type := _, pos := _, after := _, guard := _ } :: _) _ _); refine bxA _ rfl 40 _ rfl _ rfl ?_; intro g1 w1 hg hs1 k1 e1; have X1 := Lib.hid k1; have E1 := Lib.hid e1; obtain ⟨a0, a1⟩ := lg_cells k1; clear hg hs1 k1 e1))
  clear a0 a1 q8
  go_loopw [3, 12] (fun _ i wr => ∃ k : Nat, k ≤ xs.length ∧ i = .int .i64 k ∧ Ext w1 wr ∧ (∀ j (h : j < xs.length), j < k → rightB xs[j].a = true) ∧ (∀ j (h : j + 1 < xs.length), j + 1 < k → cB xs[j].a.nm xs[j + 1].a.nm < 0)) (fun _ i _ => xs.length - (intOf i).toNat)
  case atStart => exact ⟨0, by omega, rfl, Ext.refl _, fun j h hj => by omega, fun j h hj => by omega⟩
  case round =>
    obtain ⟨k, hk, rfl, hE, hr, hr2⟩ := hrel
    have HR := Lib.hid hr
    have HR2 := Lib.hid hr2
    have E2 := Lib.hid hE
    have F2 := Lib.hid (E1.out.trans hE)
    clear hr hr2 hE
    by_cases hlt : k < xs.length
    · have HX := Lib.hid ((HB.out.each _ (List.getElem_mem hlt)).ext F2.out)
      have OX := Lib.hid (HOK.out _ (List.getElem_mem hlt))
      have k1 : (k : Int) < (xs.length : Int) := by omega
      have HFk := Lib.hid (HF.out k hlt)
      obtain ⟨ad, hA, x0, x1, x2, x3, x4, x5, x6⟩ := (HB.out.rd.ext F2.out).seven hlt
      have HRK : Hid (rightB xs[k].a = true → ∀ j (h : j < xs.length), j < k + 1 → rightB xs[j].a = true) := fun h j hj hjk => by
        rcases Nat.lt_or_ge j k with h2 | h2
        · exact HR.out j hj h2
        · obtain rfl : j = k := by omega
          exact h
      by_cases hk0 : k = 0
      · subst hA
        have q0 : decide (0 < k) = false := decide_eq_false (by omega)
        have HK0 := Lib.hid hk0
        clear hk0
        generalize xs[k] = x at *
        have HRC0 : Hid (∀ W, Ext wr W → Calls Tryd.prog 18 #[(.agg #[.string x.a.ten, .int .u64 x.a.cap, .int .u64 x.a.used, .int .u64 x.a.bits, .int .u64 x.a.per, .slice x.AL x.a.ls.length x.cL, .slice x.AC x.a.cl.length x.cC])] W (RetV W (.bool (rightB x.a)))) := fun W e => aright_calls x.a x.AL x.AC x.cL x.cC W (HX.out.ext e).rd OX.out (HL.out.ext (F2.out.trans e))
        generalize rightB x.a = b at *
        go_wp2_with (first | ((with_reducible show wpList _ _ _ ({ dst := some 4, op := Op.alloc 26, type := _, pos := _, after := _, guard := _ } :: _) _ _); refine alA _ rfl 26 rfl _ _ zero_acct ?_; intro g5 w5 hg hs1 k3 e3; have X5 := Lib.hid k3; have T5 := Lib.hid e3; have G5 := Lib.hid (Nat.le_of_eq hg); clear hg hs1 k3 e3 x0 x1 x2 x3 x4 x5 x6) | ((with_reducible show wpList _ _ _ ({ dst := none, op := Op.store 26 _ _, type := _, pos := _, after := _, guard := _ } :: _) _ _); refine stA _ rfl 26 26 _ _ rfl g5 _ (acV x.a x.AL x.cL x.AC x.cC) rfl rfl X5.out size_acct rfl (ac_one _ _ _ _ _) ?_; intro w6 hs k4 g4; have T6 := Lib.hid (show Ext wr w6 from T5.out.grown g4 (fun k hk => by injection hk with hk; have := G5.out; omega)); have X6 := Lib.hid k4; obtain ⟨y0, y1, y2, y3, y4, y5, y6⟩ := ac_cells k4; obtain ⟨a0, a1⟩ := lg_cells (X1.out.ext (E2.out.trans T6.out)); clear hs k4 g4))
        have HRC : Hid (∀ W, Ext w6 W → Calls Tryd.prog 18 #[(.agg #[.string x.a.ten, .int .u64 x.a.cap, .int .u64 x.a.used, .int .u64 x.a.bits, .int .u64 x.a.per, .slice x.AL x.a.ls.length x.cL, .slice x.AC x.a.cl.length x.cC])] W (RetV W (.bool b))) := fun W e => HRC0.out W (T6.out.trans e)
        have KS : Hid (∀ W, Ext w6 W → _) := fun W e => And.intro ((X1.out.ext ((E2.out.trans T6.out).trans e)).cell 1) (And.intro True.intro (ac_cells (X6.out.ext e)))
        cases b with
        | false =>
          have HFF := Lib.hid (HFk.out rfl)
          clear HFk HRK
          refine wp_region_quietE w6 (Ext.refl _) (by kernel_rfl) (by kernel_rfl) ?_
          repeat (first | (apply wpq_skip; (focus rfl); (try simp only [Act.put, List.setIfInBounds_toArray, List.set_cons_zero, List.set_cons_succ])) | ((with_reducible show QGoal _ _ _ _ ({ dst := _, op := Op.call { callee := Callee.value (Operand.func 18), args := _, argTypes := _ }, type := _, pos := _, after := _, guard := _ } :: _) _); apply wpq_call (hc := HRC.out); (focus rfl); (focus (intro W hW; go_simp; (first | done | with_reducible rfl))); (try simp only [Act.put, List.setIfInBounds_toArray, List.set_cons_zero, List.set_cons_succ])) | (apply wpq_take; (focus rfl); (focus (intro W hW; obtain ⟨b1, p0, ⟨y0, y1, y2, y3, y4, y5, y6⟩⟩ := KS.out W hW; go_simp; (first | done | with_reducible rfl))); (try simp only [Act.put, List.setIfInBounds_toArray, List.set_cons_zero, List.set_cons_succ])))
          refine wpq_nil ?_
          intro w9 S9
          go_wp2_with fail
          go_ret
          rw [HFF.out]
          exact ⟨rfl, (F2.out.trans T6.out).trans S9⟩
        | true =>
          have HRR := Lib.hid (HRK.out rfl)
          clear HFk HRK
          refine wp_region_quietE w6 (Ext.refl _) (by kernel_rfl) (by kernel_rfl) ?_
          repeat (first | (apply wpq_skip; (focus rfl); (try simp only [Act.put, List.setIfInBounds_toArray, List.set_cons_zero, List.set_cons_succ])) | ((with_reducible show QGoal _ _ _ _ ({ dst := _, op := Op.call { callee := Callee.value (Operand.func 18), args := _, argTypes := _ }, type := _, pos := _, after := _, guard := _ } :: _) _); apply wpq_call (hc := HRC.out); (focus rfl); (focus (intro W hW; go_simp; (first | done | with_reducible rfl))); (try simp only [Act.put, List.setIfInBounds_toArray, List.set_cons_zero, List.set_cons_succ])) | (apply wpq_take; (focus rfl); (focus (intro W hW; obtain ⟨b1, p0, ⟨y0, y1, y2, y3, y4, y5, y6⟩⟩ := KS.out W hW; go_simp; (first | done | with_reducible rfl))); (try simp only [Act.put, List.setIfInBounds_toArray, List.set_cons_zero, List.set_cons_succ])))
          refine wpq_nil ?_
          intro w9 S9
          go_wp2_with fail
          go_roundw
          case rel => exact ⟨k + 1, by omega, by go_num, (E2.out.trans T6.out).trans S9, HRR.out, fun j h hj => by have := HK0.out; omega⟩
          case measure => simp [intOf]; omega
      · obtain ⟨m, hkm⟩ : ∃ m, k = m + 1 := ⟨k - 1, by omega⟩
        have hm0 : m < xs.length := by omega
        have HFm : Hid (¬ cB xs[m].a.nm xs[k].a.nm < 0 → R = false) := by
          subst hkm
          exact Lib.hid (fun h => HFR.out m hlt (by omega))
        have HRM : Hid (cB xs[m].a.nm xs[k].a.nm < 0 → ∀ j (h : j + 1 < xs.length), j + 1 < k + 1 → cB xs[j].a.nm xs[j + 1].a.nm < 0) := fun h j hj hjm => by
          subst hkm
          rcases Nat.lt_or_ge (j + 1) (m + 1) with h2 | h2
          · exact HR2.out j hj h2
          · obtain rfl : j = m := by omega
            exact h
        have u1 : IntKind.i64.wrap ((k : Int) - 1) = (m : Int) := by rw [IntWalk.i64_in _ (by omega)]; omega
        have k2 : (m : Int) < (xs.length : Int) := by omega
        have HLQ := Lib.hid (less_cB xs[m].a.ten.data.toList xs[k].a.ten.data.toList)
        have HV : Hid (cB xs[m].a.nm xs[k].a.nm = cB xs[m].a.ten.data.toList xs[k].a.ten.data.toList) := rfl
        obtain ⟨ad2, hA2, hpc⟩ := (⟨HB.out.rd.ext F2.out, fun x hx => (HB.out.each x hx).ext F2.out⟩ : RdL wr A xs).cells_at hm0
        subst hA
        injection hA2 with hA2
        subst hA2
        have HPC := Lib.hid hpc
        clear hpc
        generalize cB xs[m].a.nm xs[k].a.nm = v at *
        rw [← HV.out] at HLQ
        rw [← ByteArray.toList_eq, ← ByteArray.toList_eq] at HLQ
        generalize xs[k] = x at *
        generalize xs[m] = y at *
        have HRC0 : Hid (∀ W, Ext wr W → Calls Tryd.prog 18 #[(.agg #[.string x.a.ten, .int .u64 x.a.cap, .int .u64 x.a.used, .int .u64 x.a.bits, .int .u64 x.a.per, .slice x.AL x.a.ls.length x.cL, .slice x.AC x.a.cl.length x.cC])] W (RetV W (.bool (rightB x.a)))) := fun W e => aright_calls x.a x.AL x.AC x.cL x.cC W (HX.out.ext e).rd OX.out (HL.out.ext (F2.out.trans e))
        generalize rightB x.a = b at *
        have q0 : decide (0 < k) = true := decide_eq_true (by omega)
        clear hkm hk0
        go_wp2_with (first | ((with_reducible show wpList _ _ _ ({ dst := some 4, op := Op.alloc 26, type := _, pos := _, after := _, guard := _ } :: _) _ _); refine alA _ rfl 26 rfl _ _ zero_acct ?_; intro g5 w5 hg hs1 k3 e3; have X5 := Lib.hid k3; have T5 := Lib.hid e3; have G5 := Lib.hid (Nat.le_of_eq hg); clear hg hs1 k3 e3 x0 x1 x2 x3 x4 x5 x6) | ((with_reducible show wpList _ _ _ ({ dst := none, op := Op.store 26 _ _, type := _, pos := _, after := _, guard := _ } :: _) _ _); refine stA _ rfl 26 26 _ _ rfl g5 _ (acV x.a x.AL x.cL x.AC x.cC) rfl rfl X5.out size_acct rfl (ac_one _ _ _ _ _) ?_; intro w6 hs k4 g4; have T6 := Lib.hid (show Ext wr w6 from T5.out.grown g4 (fun k hk => by injection hk with hk; have := G5.out; omega)); have X6 := Lib.hid k4; obtain ⟨y0, y1, y2, y3, y4, y5, y6⟩ := ac_cells k4; obtain ⟨a0, a1⟩ := lg_cells (X1.out.ext (E2.out.trans T6.out)); clear hs k4 g4))
        have HRC : Hid (∀ W, Ext w6 W → Calls Tryd.prog 18 #[(.agg #[.string x.a.ten, .int .u64 x.a.cap, .int .u64 x.a.used, .int .u64 x.a.bits, .int .u64 x.a.per, .slice x.AL x.a.ls.length x.cL, .slice x.AC x.a.cl.length x.cC])] W (RetV W (.bool b))) := fun W e => HRC0.out W (T6.out.trans e)
        have KS : Hid (∀ W, Ext w6 W → _) := fun W e => And.intro ((X1.out.ext ((E2.out.trans T6.out).trans e)).cell 1) (And.intro (HPC.out W (T6.out.trans e)).1 (ac_cells (X6.out.ext e)))
        by_cases hv : v < 0
        · have q : Op.bytesLess y.a.ten.toList x.a.ten.toList = true := by rw [HLQ.out]; exact decide_eq_true hv
          have HRM2 := Lib.hid (HRM.out hv)
          clear HFm HRM HLQ HV hv
          cases b with
          | false =>
            have HFF := Lib.hid (HFk.out rfl)
            clear HFk HRK
            refine wp_region_quietE w6 (Ext.refl _) (by kernel_rfl) (by kernel_rfl) ?_
            repeat (first | (apply wpq_skip; (focus rfl); (try simp only [Act.put, List.setIfInBounds_toArray, List.set_cons_zero, List.set_cons_succ])) | ((with_reducible show QGoal _ _ _ _ ({ dst := _, op := Op.call { callee := Callee.value (Operand.func 18), args := _, argTypes := _ }, type := _, pos := _, after := _, guard := _ } :: _) _); apply wpq_call (hc := HRC.out); (focus rfl); (focus (intro W hW; go_simp; (first | done | with_reducible rfl))); (try simp only [Act.put, List.setIfInBounds_toArray, List.set_cons_zero, List.set_cons_succ])) | (apply wpq_take; (focus rfl); (focus (intro W hW; obtain ⟨b1, p0, ⟨y0, y1, y2, y3, y4, y5, y6⟩⟩ := KS.out W hW; go_simp; (first | done | with_reducible rfl))); (try simp only [Act.put, List.setIfInBounds_toArray, List.set_cons_zero, List.set_cons_succ])))
            refine wpq_nil ?_
            intro w9 S9
            go_wp2_with fail
            go_ret
            rw [HFF.out]
            exact ⟨rfl, (F2.out.trans T6.out).trans S9⟩
          | true =>
            have HRR := Lib.hid (HRK.out rfl)
            clear HFk HRK
            refine wp_region_quietE w6 (Ext.refl _) (by kernel_rfl) (by kernel_rfl) ?_
            repeat (first | (apply wpq_skip; (focus rfl); (try simp only [Act.put, List.setIfInBounds_toArray, List.set_cons_zero, List.set_cons_succ])) | ((with_reducible show QGoal _ _ _ _ ({ dst := _, op := Op.call { callee := Callee.value (Operand.func 18), args := _, argTypes := _ }, type := _, pos := _, after := _, guard := _ } :: _) _); apply wpq_call (hc := HRC.out); (focus rfl); (focus (intro W hW; go_simp; (first | done | with_reducible rfl))); (try simp only [Act.put, List.setIfInBounds_toArray, List.set_cons_zero, List.set_cons_succ])) | (apply wpq_take; (focus rfl); (focus (intro W hW; obtain ⟨b1, p0, ⟨y0, y1, y2, y3, y4, y5, y6⟩⟩ := KS.out W hW; go_simp; (first | done | with_reducible rfl))); (try simp only [Act.put, List.setIfInBounds_toArray, List.set_cons_zero, List.set_cons_succ])))
            refine wpq_nil ?_
            intro w9 S9
            go_wp2_with fail
            go_roundw
            case rel => exact ⟨k + 1, by omega, by go_num, (E2.out.trans T6.out).trans S9, HRR.out, HRM2.out⟩
            case measure => simp [intOf]; omega
        · have q : Op.bytesLess y.a.ten.toList x.a.ten.toList = false := by rw [HLQ.out]; exact decide_eq_false hv
          have HFF := Lib.hid (HFm.out (by omega))
          clear HFm HRM HLQ HV HFk HRK hv
          refine wp_region_quietE w6 (Ext.refl _) (by kernel_rfl) (by kernel_rfl) ?_
          repeat (first | (apply wpq_skip; (focus rfl); (try simp only [Act.put, List.setIfInBounds_toArray, List.set_cons_zero, List.set_cons_succ])) | ((with_reducible show QGoal _ _ _ _ ({ dst := _, op := Op.call { callee := Callee.value (Operand.func 18), args := _, argTypes := _ }, type := _, pos := _, after := _, guard := _ } :: _) _); apply wpq_call (hc := HRC.out); (focus rfl); (focus (intro W hW; go_simp; (first | done | with_reducible rfl))); (try simp only [Act.put, List.setIfInBounds_toArray, List.set_cons_zero, List.set_cons_succ])) | (apply wpq_take; (focus rfl); (focus (intro W hW; obtain ⟨b1, p0, ⟨y0, y1, y2, y3, y4, y5, y6⟩⟩ := KS.out W hW; go_simp; (first | done | with_reducible rfl))); (try simp only [Act.put, List.setIfInBounds_toArray, List.set_cons_zero, List.set_cons_succ])))
          refine wpq_nil ?_
          intro w9 S9
          go_wp2_with fail
          go_ret
          rw [HFF.out]
          exact ⟨rfl, (F2.out.trans T6.out).trans S9⟩
    · have HFF := Lib.hid (HT.out (fun j h => HR.out j h (by omega)) (fun j h => HR2.out j h (by omega)))
      have k1 : ¬ (k : Int) < (xs.length : Int) := by omega
      go_wp2_with fail
      go_ret
      rw [HFF.out]
      exact ⟨rfl, F2.out⟩
end Go.Proofs.YtkbjnlbbfapgdaaDoor

