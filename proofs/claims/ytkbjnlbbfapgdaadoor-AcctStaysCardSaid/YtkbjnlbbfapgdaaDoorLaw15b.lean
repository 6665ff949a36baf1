/- The law AcctStays: a theorem a kind, and the whole. -/
import Derived.Test.YtkbjnlbbfapgdaaDoorLaw15
import Derived.Test.YtkbjnlbbfapgdaaDoorQuietE
set_option maxRecDepth 100000
set_option linter.unusedVariables false
set_option linter.unusedSimpArgs false
namespace Go.Proofs.YtkbjnlbbfapgdaaDoor
open Go.RowKit
theorem dueV_lt (n x : Nat) : dueV n x < 18446744073709551616 := by unfold dueV dueN; split <;> omega
theorem appA_ok {a : Ac} {r : Rc} (ha : a.ok) (hr : r.ok) (h : chkA a r = 0) (h1 : a.ls.length ≤ 40) (h2 : a.cl.length ≤ 40) : (appA a r).ok := by
  obtain ⟨k1, k2, k3, k4, k5, k6, k7, _, _⟩ := ha
  obtain ⟨r1, r2, r3, r4, _, _⟩ := hr
  have hu : addN a.used r.n < 18446744073709551616 := by rw [addN_eq]; omega
  rcases chk_known h with hk | hk | hk | hk | hk
  · have e : appA a r = { a with cap := r.n } := by unfold appA; simp only [hk]; rfl
    rw [e]; exact ⟨k1, r3, k3, k4, k5, k6, k7, by show a.ls.length ≤ _; omega, by show a.cl.length ≤ _; omega⟩
  · have e : appA a r = { a with bits := r.bits } := by unfold appA; simp only [hk]; rfl
    rw [e]; exact ⟨k1, k2, k3, r4, k5, k6, k7, by show a.ls.length ≤ _; omega, by show a.cl.length ≤ _; omega⟩
  · have e : appA a r = { a with ls := a.ls ++ [⟨r.lease, r.n⟩] } := by unfold appA; simp only [hk]; rfl
    rw [e]
    refine ⟨k1, k2, k3, k4, k5, fun l hl => ?_, k7, by simp; omega, by show a.cl.length ≤ _; omega⟩
    rcases List.mem_append.1 hl with hl | hl
    · exact k6 l hl
    · obtain rfl : l = ⟨r.lease, r.n⟩ := by simpa using hl
      exact ⟨r2, r3⟩
  · have e : appA a r = { a with ls := a.ls.eraseIdx (idx a.ls (fun l => decide (l.id = r.lease))), used := addN a.used r.n } := by unfold appA; simp only [hk]; rfl
    rw [e]
    exact ⟨k1, k2, hu, k4, k5, fun l hl => k6 l (List.mem_of_mem_eraseIdx hl), k7, by have := List.length_eraseIdx_le a.ls (idx a.ls (fun l => decide (l.id = r.lease))); show (a.ls.eraseIdx _).length ≤ _; omega, by show a.cl.length ≤ _; omega⟩
  · have hp := (chk_close (a := a) (lease := r.lease) (n := r.n) (by have := (chk_zero h).2.2; rw [hk] at this; exact this)).2
    have e : appA a r = { a with cl := a.cl ++ [stmtOf a], per := a.per + 1, used := 0 } := by unfold appA; simp only [hk]; rfl
    rw [e]
    refine ⟨k1, k2, by show 0 < _; omega, k4, by show a.per + 1 < _; omega, k6, fun s hs => ?_, by show a.ls.length ≤ _; omega, by simp; omega⟩
    rcases List.mem_append.1 hs with hs | hs
    · exact k7 s hs
    · obtain rfl : s = stmtOf a := by simpa using hs
      exact ⟨k5, k3, k2, k4, dueV_lt _ _, by show a.ten.size ≤ _; omega⟩


set_option maxHeartbeats 16000000 in
theorem acctStays_1 (a : Ac) (r : Rc) (AL AC : Option Addr) (cL cC : Nat) (w : World) (ha : AcIn w a AL cL AC cC) (hr : r.ok) (ht : r.ten.size ≤ 9223372036854775807) (hL : Laid w) (hla : largeB a = false) (hbig : ¬ 100 < r.ten.size) (hra : rightB a = true) (hc : chkA a r = 0) (hk : r.kind = 1) :
    Calls Tryd.prog 3 #[acA a AL cL AC cC, rcA r] w (RetV w (.bool true)) := by
  have HKD := Lib.hid hk
  have HCD := Lib.hid hc
  clear hk hc
  have HA := Lib.hid ha
  have HR := Lib.hid hr
  have HL := Lib.hid hL
  have HLA : Hid (∀ W, Ext w W → Calls Tryd.prog 12 #[(.agg #[.string a.ten, .int .u64 a.cap, .int .u64 a.used, .int .u64 a.bits, .int .u64 a.per, .slice AL a.ls.length cL, .slice AC a.cl.length cC])] W (RetV W (.bool (largeB a)))) := fun W e => rlarge_calls a AL AC cL cC W (HA.out.rd.ext e) (by have := HA.out.ll; have := HA.out.ml; omega) (by have := HA.out.lc; have := HA.out.mc; omega) HA.out.ten HA.out.cok
  have HAW : Hid (∀ W, Ext w W → Calls Tryd.prog 14 #[] W (RetV W (.bool true))) := fun W e => awake15 W (HL.out.ext e)
  have HOA : Hid (largeB a = false → a.ok ∧ a.ls.length ≤ 40 ∧ a.cl.length ≤ 40 ∧ a.ten.size ≤ 100) := fun h => largeB_ok h HA.out
  clear ha hr hL
  unfold acA rcA
  go_enter Tryd.func3, Tryd.ntmps3
  go_wp2_with (first
    | ((with_reducible show wpList _ _ _ ({ dst := some 2, op := Op.box 26 _, type := _, pos := _, after := _, guard := _ } :: _) _ _); refine bxA _ rfl 26 _ rfl _ rfl ?_; intro g1 w1 hg hs1 k1 e1; have X0 := Lib.hid k1; have E0 := Lib.hid e1; clear hg hs1 k1 e1)
    | ((with_reducible show wpList _ _ _ ({ dst := some 3, op := Op.box 28 _, type := _, pos := _, after := _, guard := _ } :: _) _ _); refine bxA _ rfl 28 _ rfl _ rfl ?_; intro g3 w2 hg hs1 k1 e1; have X1 := Lib.hid (X0.out.ext e1); have X2 := Lib.hid k1; have E1 := Lib.hid (E0.out.trans e1); obtain ⟨a0, a1, a2, a3, a4, a5, a6⟩ := ac_cells X1.out; obtain ⟨r0, r1, r2, r3, r4, r5⟩ := rc_cells X2.out; clear hg hs1 k1 e1 X0 E0))
  refine (HLA.out _ E1.out).mono ?_
  rintro e w3 ⟨rfl, e3⟩
  have X3 := Lib.hid (X1.out.ext e3)
  have Y3 := Lib.hid (X2.out.ext e3)
  have E3 := Lib.hid (E1.out.trans e3)
  clear e3 a0 a1 a2 a3 a4 a5 a6 r0 r1 r2 r3 r4 r5 X1 X2 E1 HLA
  have OA := Lib.hid (HOA.out hla)
  rw [hla]
  clear hla HOA
  obtain ⟨a0, a1, a2, a3, a4, a5, a6⟩ := ac_cells X3.out
  obtain ⟨r0, r1, r2, r3, r4, r5⟩ := rc_cells Y3.out
  go_wp2_with fail
  refine (rright_calls a AL AC cL cC _ (HA.out.rd.ext E3.out) OA.out.1).mono ?_
  rintro e w4 ⟨rfl, e4⟩
  have X4 := Lib.hid (X3.out.ext e4)
  have Y4 := Lib.hid (Y3.out.ext e4)
  have E4 := Lib.hid (E3.out.trans e4)
  clear e4 a0 a1 a2 a3 a4 a5 a6 r0 r1 r2 r3 r4 r5 X3 Y3 E3
  have HRA := Lib.hid hra
  have HAP : Hid (Calls Tryd.prog 15 #[(.agg #[.string a.ten, .int .u64 a.cap, .int .u64 a.used, .int .u64 a.bits, .int .u64 a.per, .slice AL a.ls.length cL, .slice AC a.cl.length cC]), (.agg #[.int .u64 r.seq, .int .i64 r.kind, .string r.ten, .int .u64 r.lease, .int .u64 r.n, .int .u64 r.bits])] w4 fun e w' => ∃ XL xl XC xc, e = .returned (.tuple #[(.agg #[.string (appA a r).ten, .int .u64 (appA a r).cap, .int .u64 (appA a r).used, .int .u64 (appA a r).bits, .int .u64 (appA a r).per, .slice XL (appA a r).ls.length xl, .slice XC (appA a r).cl.length xc]), .int .i64 0]) ∧ OwnA w' w4.heap.size (appA a r) XL xl XC xc ∧ Ext w4 w') := by
    have h := aapply_calls a r AL AC cL cC w4 (HA.out.rd.ext E4.out) OA.out.1 HR.out HA.out.nl HA.out.nc (HL.out.ext E4.out)
    rw [if_pos HCD.out, HCD.out] at h
    exact h
  rw [hra]
  clear hra
  obtain ⟨a0, a1, a2, a3, a4, a5, a6⟩ := ac_cells X4.out
  obtain ⟨r0, r1, r2, r3, r4, r5⟩ := rc_cells Y4.out
  have hc := HCD.out
  have HC := Lib.hid hc
  have OX := Lib.hid (appA_ok OA.out.1 HR.out hc OA.out.2.1 OA.out.2.2.1)
  have HK := Lib.hid (chk_known hc)
  have hus := OA.out.1.2.2.1
  have hca := OA.out.1.2.1
  have HRX := Lib.hid (stays_right hus hca HRA.out hc)
  have HS3 : Hid (r.kind = 3 → useN (appA a r) ≤ (appA a r).cap) := fun hk => (stays_reserve hus hca HRA.out hc hk).2
  have HS4 : Hid (r.kind = 4 → useN (appA a r) ≤ useN a) := fun hk => (stays_settle hus HRA.out hc hk).2
  have HS5 : Hid (r.kind = 5 → totF (appA a r).used (appA a r).cl = totF a.used a.cl ∧ (appA a r).used = 0) := fun hk => (stays_close hus HRA.out hc hk).2
  clear hc hus hca
  generalize appA a r = x at *
  go_wp2_with fail
  refine HAP.out.mono ?_
  rintro e w5 ⟨XL, xl, XC, xc, rfl, o5, e5⟩
  have O5 := Lib.hid o5
  have X5 := Lib.hid (X4.out.ext e5)
  have Y5 := Lib.hid (Y4.out.ext e5)
  have E5 := Lib.hid (E4.out.trans e5)
  clear o5 e5 a0 a1 a2 a3 a4 a5 a6 r0 r1 r2 r3 r4 r5 HAP
  go_wp2_with (first
    | ((with_reducible show wpList _ _ _ ({ dst := some 5, op := Op.alloc 26, type := _, pos := _, after := _, guard := _ } :: _) _ _); refine alA _ rfl 26 rfl _ _ zero_acct ?_; intro g5 w6 hg hs1 k1 e1; have Z6 := Lib.hid k1; have X6 := Lib.hid (X5.out.ext e1); have Y6 := Lib.hid (Y5.out.ext e1); have E6 := Lib.hid (E5.out.trans e1); have O6 := Lib.hid (O5.out.ext e1); have F6 := Lib.hid (O5.out.off (g := g5) (.inr (Nat.le_of_eq hg))); have G6 := Lib.hid (show w.heap.size ≤ g5 ∧ g1 < g5 ∧ g3 < g5 from ⟨by have := E5.out.size; omega, by have := X5.out.lt; omega, by have := Y5.out.lt; omega⟩); clear hg hs1 k1 e1)
    | ((with_reducible show wpList _ _ _ ({ dst := none, op := Op.store 26 (Operand.tmp 5) _, type := _, pos := _, after := _, guard := _ } :: _) _ _); refine stA _ rfl 26 26 _ _ rfl g5 _ (acV x XL xl XC xc) rfl rfl Z6.out size_acct rfl (ac_one _ _ _ _ _) ?_; intro w7 hs k7 g7; have Z7 := Lib.hid k7; have E7 := Lib.hid (E6.out.grown g7 (fun q hq => by injection hq with hq; have := G6.out; omega)); have X7 := Lib.hid (X6.out.grown g7 (by have := G6.out; intro hh; injection hh; omega)); have Y7 := Lib.hid (Y6.out.grown g7 (by have := G6.out; intro hh; injection hh; omega)); have O7 := Lib.hid (O6.out.keep g7 F6.out.1 F6.out.2); clear hs k7 g7))
  have H1 : Hid (∀ W, Ext w7 W → Calls Tryd.prog 13 #[(.agg #[.string x.ten, .int .u64 x.cap, .int .u64 x.used, .int .u64 x.bits, .int .u64 x.per, .slice XL x.ls.length xl, .slice XC x.cl.length xc])] W (RetV W (.bool true))) := fun W e => by
    have := rright_calls x XL XC xl xc W (O7.out.rd.ext e) OX.out
    rwa [HRX.out] at this
  have H2 : Hid (∀ W, Ext w7 W → Calls Tryd.prog 16 #[(.agg #[.string x.ten, .int .u64 x.cap, .int .u64 x.used, .int .u64 x.bits, .int .u64 x.per, .slice XL x.ls.length xl, .slice XC x.cl.length xc])] W (RetV W (.int .u64 (useN x)))) := fun W e => ruse_calls x XL XC xl xc W (O7.out.rd.ext e) OX.out
  have H3 : Hid (∀ W, Ext w7 W → Calls Tryd.prog 16 #[(.agg #[.string a.ten, .int .u64 a.cap, .int .u64 a.used, .int .u64 a.bits, .int .u64 a.per, .slice AL a.ls.length cL, .slice AC a.cl.length cC])] W (RetV W (.int .u64 (useN a)))) := fun W e => ruse_calls a AL AC cL cC W (HA.out.rd.ext (E7.out.trans e)) OA.out.1
  have H4 : Hid (r.kind = 5 → ∀ W, Ext w7 W → Calls Tryd.prog 17 #[(.agg #[.string x.ten, .int .u64 x.cap, .int .u64 x.used, .int .u64 x.bits, .int .u64 x.per, .slice XL x.ls.length xl, .slice XC x.cl.length xc])] W (RetV W (.int .u64 (totF a.used a.cl)))) := fun hk W e => by
    have := rtotal_calls x XL XC xl xc W (O7.out.rd.ext e) OX.out
    rwa [(HS5.out hk).1] at this
  have H5 : Hid (∀ W, Ext w7 W → Calls Tryd.prog 17 #[(.agg #[.string a.ten, .int .u64 a.cap, .int .u64 a.used, .int .u64 a.bits, .int .u64 a.per, .slice AL a.ls.length cL, .slice AC a.cl.length cC])] W (RetV W (.int .u64 (totF a.used a.cl)))) := fun W e => rtotal_calls a AL AC cL cC W (HA.out.rd.ext (E7.out.trans e)) OA.out.1
  have KS : Hid (∀ w', Ext w7 w' → Ext w7 w' ∧ (w'.cell? ⟨g5, 0, none⟩ = some (.string x.ten) ∧ w'.cell? ⟨g5, 1, none⟩ = some (.int .u64 x.cap) ∧ w'.cell? ⟨g5, 2, none⟩ = some (.int .u64 x.used) ∧ w'.cell? ⟨g5, 3, none⟩ = some (.int .u64 x.bits) ∧ w'.cell? ⟨g5, 4, none⟩ = some (.int .u64 x.per) ∧ w'.cell? ⟨g5, 5, none⟩ = some (.slice XL x.ls.length xl) ∧ w'.cell? ⟨g5, 6, none⟩ = some (.slice XC x.cl.length xc)) ∧ (w'.cell? ⟨g1, 0, none⟩ = some (.string a.ten) ∧ w'.cell? ⟨g1, 1, none⟩ = some (.int .u64 a.cap) ∧ w'.cell? ⟨g1, 2, none⟩ = some (.int .u64 a.used) ∧ w'.cell? ⟨g1, 3, none⟩ = some (.int .u64 a.bits) ∧ w'.cell? ⟨g1, 4, none⟩ = some (.int .u64 a.per) ∧ w'.cell? ⟨g1, 5, none⟩ = some (.slice AL a.ls.length cL) ∧ w'.cell? ⟨g1, 6, none⟩ = some (.slice AC a.cl.length cC)) ∧ w'.cell? ⟨g3, 1, none⟩ = some (.int .i64 r.kind)) := fun w' e => ⟨e, ac_cells (Z7.out.ext e), ac_cells (X7.out.ext e), (Y7.out.ext e).cell 1⟩
  have HU0 : Hid (r.kind = 5 → x.used = 0) := fun hk => (HS5.out hk).2
  generalize useN x = UX at *
  generalize useN a = UA at *
  generalize totF a.used a.cl = TA at *
  have HQ3 : Hid (r.kind = 3 → decide (x.cap < UX) = false) := fun h => decide_eq_false (by have := HS3.out h; omega)
  have HQ4 : Hid (r.kind = 4 → decide (UA < UX) = false) := fun h => decide_eq_false (by have := HS4.out h; omega)
  have HQ5 : Hid (r.kind = 5 → ((x.used : Int) == 0) = true) := fun h => by show _ = _; rw [HU0.out h]; rfl
  have HKK := Lib.hid HK.out
  clear HS3 HS4 HS5 HU0 HRX HK
  have hk := HKD.out
  have HAW7 : Hid (∀ W, Ext w7 W → Calls Tryd.prog 14 #[] W (RetV W (.bool true))) := fun W e => HAW.out W (E7.out.trans e)
  clear HQ3 HQ4 HQ5 HKK
  rw [hk] at KS
  clear hk
  go_wp2_with fail
  refine wp_region_quietE w7 (Ext.refl _) (by kernel_rfl) (by kernel_rfl) ?_
  repeat (first | (apply wpq_skip; (focus rfl); (try simp only [Act.put, List.setIfInBounds_toArray, List.set_cons_zero, List.set_cons_succ])) | ((with_reducible show QGoal _ _ _ _ ({ dst := _, op := Op.call { callee := Callee.value (Operand.func 13), args := _, argTypes := _ }, type := _, pos := _, after := _, guard := _ } :: _) _); apply wpq_call (hc := H1.out); (focus rfl); (focus (intro W hW; go_simp; (first | done | with_reducible rfl))); (try simp only [Act.put, List.setIfInBounds_toArray, List.set_cons_zero, List.set_cons_succ])) | ((with_reducible show QGoal _ _ _ _ ({ dst := _, op := Op.call { callee := Callee.value (Operand.func 16), args := _, argTypes := _ }, type := _, pos := _, after := _, guard := _ } :: _) _); apply wpq_call (hc := H2.out); (focus rfl); (focus (intro W hW; go_simp; (first | done | with_reducible rfl))); (try simp only [Act.put, List.setIfInBounds_toArray, List.set_cons_zero, List.set_cons_succ])) | ((with_reducible show QGoal _ _ _ _ ({ dst := _, op := Op.call { callee := Callee.value (Operand.func 16), args := _, argTypes := _ }, type := _, pos := _, after := _, guard := _ } :: _) _); apply wpq_call (hc := H3.out); (focus rfl); (focus (intro W hW; go_simp; (first | done | with_reducible rfl))); (try simp only [Act.put, List.setIfInBounds_toArray, List.set_cons_zero, List.set_cons_succ])) | (apply wpq_take; (focus rfl); (focus (intro W hW; obtain ⟨_, ⟨a0, a1, a2, a3, a4, a5, a6⟩, ⟨b0, b1, b2, b3, b4, b5, b6⟩, r1⟩ := KS.out W hW; go_simp; (first | done | with_reducible rfl))); (try simp only [Act.put, List.setIfInBounds_toArray, List.set_cons_zero, List.set_cons_succ])))
  refine wpq_nil ?_
  intro w9 S9
  go_wp2_with fail
  refine wp_region_quietE w7 S9 (by kernel_rfl) (by kernel_rfl) ?_
  repeat (first | (apply wpq_skip; (focus rfl); (try simp only [Act.put, List.setIfInBounds_toArray, List.set_cons_zero, List.set_cons_succ])) | ((with_reducible show QGoal _ _ _ _ ({ dst := _, op := Op.call { callee := Callee.value (Operand.func 17), args := _, argTypes := _ }, type := _, pos := _, after := _, guard := _ } :: _) _); apply wpq_call (hc := (H4.out HKD.out)); (focus rfl); (focus (intro W hW; go_simp; (first | done | with_reducible rfl))); (try simp only [Act.put, List.setIfInBounds_toArray, List.set_cons_zero, List.set_cons_succ])) | ((with_reducible show QGoal _ _ _ _ ({ dst := _, op := Op.call { callee := Callee.value (Operand.func 17), args := _, argTypes := _ }, type := _, pos := _, after := _, guard := _ } :: _) _); apply wpq_call (hc := H5.out); (focus rfl); (focus (intro W hW; go_simp; (first | done | with_reducible rfl))); (try simp only [Act.put, List.setIfInBounds_toArray, List.set_cons_zero, List.set_cons_succ])) | ((with_reducible show QGoal _ _ _ _ ({ dst := _, op := Op.call { callee := Callee.value (Operand.func 14), args := _, argTypes := _ }, type := _, pos := _, after := _, guard := _ } :: _) _); apply wpq_call (hc := HAW7.out); (focus rfl); (focus (intro W hW; go_simp; (first | done | with_reducible rfl))); (try simp only [Act.put, List.setIfInBounds_toArray, List.set_cons_zero, List.set_cons_succ])) | (apply wpq_take; (focus rfl); (focus (intro W hW; obtain ⟨_, ⟨a0, a1, a2, a3, a4, a5, a6⟩, ⟨b0, b1, b2, b3, b4, b5, b6⟩, r1⟩ := KS.out W hW; go_simp; (first | done | with_reducible rfl))); (try simp only [Act.put, List.setIfInBounds_toArray, List.set_cons_zero, List.set_cons_succ])))
  refine wpq_nil ?_
  intro w13 S13
  go_wp2_with fail
  go_ret
  exact ⟨rfl, E7.out.trans S13⟩

set_option maxHeartbeats 16000000 in
theorem acctStays_2 (a : Ac) (r : Rc) (AL AC : Option Addr) (cL cC : Nat) (w : World) (ha : AcIn w a AL cL AC cC) (hr : r.ok) (ht : r.ten.size ≤ 9223372036854775807) (hL : Laid w) (hla : largeB a = false) (hbig : ¬ 100 < r.ten.size) (hra : rightB a = true) (hc : chkA a r = 0) (hk : r.kind = 2) :
    Calls Tryd.prog 3 #[acA a AL cL AC cC, rcA r] w (RetV w (.bool true)) := by
  have HKD := Lib.hid hk
  have HCD := Lib.hid hc
  clear hk hc
  have HA := Lib.hid ha
  have HR := Lib.hid hr
  have HL := Lib.hid hL
  have HLA : Hid (∀ W, Ext w W → Calls Tryd.prog 12 #[(.agg #[.string a.ten, .int .u64 a.cap, .int .u64 a.used, .int .u64 a.bits, .int .u64 a.per, .slice AL a.ls.length cL, .slice AC a.cl.length cC])] W (RetV W (.bool (largeB a)))) := fun W e => rlarge_calls a AL AC cL cC W (HA.out.rd.ext e) (by have := HA.out.ll; have := HA.out.ml; omega) (by have := HA.out.lc; have := HA.out.mc; omega) HA.out.ten HA.out.cok
  have HAW : Hid (∀ W, Ext w W → Calls Tryd.prog 14 #[] W (RetV W (.bool true))) := fun W e => awake15 W (HL.out.ext e)
  have HOA : Hid (largeB a = false → a.ok ∧ a.ls.length ≤ 40 ∧ a.cl.length ≤ 40 ∧ a.ten.size ≤ 100) := fun h => largeB_ok h HA.out
  clear ha hr hL
  unfold acA rcA
  go_enter Tryd.func3, Tryd.ntmps3
  go_wp2_with (first
    | ((with_reducible show wpList _ _ _ ({ dst := some 2, op := Op.box 26 _, type := _, pos := _, after := _, guard := _ } :: _) _ _); refine bxA _ rfl 26 _ rfl _ rfl ?_; intro g1 w1 hg hs1 k1 e1; have X0 := Lib.hid k1; have E0 := Lib.hid e1; clear hg hs1 k1 e1)
    | ((with_reducible show wpList _ _ _ ({ dst := some 3, op := Op.box 28 _, type := _, pos := _, after := _, guard := _ } :: _) _ _); refine bxA _ rfl 28 _ rfl _ rfl ?_; intro g3 w2 hg hs1 k1 e1; have X1 := Lib.hid (X0.out.ext e1); have X2 := Lib.hid k1; have E1 := Lib.hid (E0.out.trans e1); obtain ⟨a0, a1, a2, a3, a4, a5, a6⟩ := ac_cells X1.out; obtain ⟨r0, r1, r2, r3, r4, r5⟩ := rc_cells X2.out; clear hg hs1 k1 e1 X0 E0))
  refine (HLA.out _ E1.out).mono ?_
  rintro e w3 ⟨rfl, e3⟩
  have X3 := Lib.hid (X1.out.ext e3)
  have Y3 := Lib.hid (X2.out.ext e3)
  have E3 := Lib.hid (E1.out.trans e3)
  clear e3 a0 a1 a2 a3 a4 a5 a6 r0 r1 r2 r3 r4 r5 X1 X2 E1 HLA
  have OA := Lib.hid (HOA.out hla)
  rw [hla]
  clear hla HOA
  obtain ⟨a0, a1, a2, a3, a4, a5, a6⟩ := ac_cells X3.out
  obtain ⟨r0, r1, r2, r3, r4, r5⟩ := rc_cells Y3.out
  go_wp2_with fail
  refine (rright_calls a AL AC cL cC _ (HA.out.rd.ext E3.out) OA.out.1).mono ?_
  rintro e w4 ⟨rfl, e4⟩
  have X4 := Lib.hid (X3.out.ext e4)
  have Y4 := Lib.hid (Y3.out.ext e4)
  have E4 := Lib.hid (E3.out.trans e4)
  clear e4 a0 a1 a2 a3 a4 a5 a6 r0 r1 r2 r3 r4 r5 X3 Y3 E3
  have HRA := Lib.hid hra
  have HAP : Hid (Calls Tryd.prog 15 #[(.agg #[.string a.ten, .int .u64 a.cap, .int .u64 a.used, .int .u64 a.bits, .int .u64 a.per, .slice AL a.ls.length cL, .slice AC a.cl.length cC]), (.agg #[.int .u64 r.seq, .int .i64 r.kind, .string r.ten, .int .u64 r.lease, .int .u64 r.n, .int .u64 r.bits])] w4 fun e w' => ∃ XL xl XC xc, e = .returned (.tuple #[(.agg #[.string (appA a r).ten, .int .u64 (appA a r).cap, .int .u64 (appA a r).used, .int .u64 (appA a r).bits, .int .u64 (appA a r).per, .slice XL (appA a r).ls.length xl, .slice XC (appA a r).cl.length xc]), .int .i64 0]) ∧ OwnA w' w4.heap.size (appA a r) XL xl XC xc ∧ Ext w4 w') := by
    have h := aapply_calls a r AL AC cL cC w4 (HA.out.rd.ext E4.out) OA.out.1 HR.out HA.out.nl HA.out.nc (HL.out.ext E4.out)
    rw [if_pos HCD.out, HCD.out] at h
    exact h
  rw [hra]
  clear hra
  obtain ⟨a0, a1, a2, a3, a4, a5, a6⟩ := ac_cells X4.out
  obtain ⟨r0, r1, r2, r3, r4, r5⟩ := rc_cells Y4.out
  have hc := HCD.out
  have HC := Lib.hid hc
  have OX := Lib.hid (appA_ok OA.out.1 HR.out hc OA.out.2.1 OA.out.2.2.1)
  have HK := Lib.hid (chk_known hc)
  have hus := OA.out.1.2.2.1
  have hca := OA.out.1.2.1
  have HRX := Lib.hid (stays_right hus hca HRA.out hc)
  have HS3 : Hid (r.kind = 3 → useN (appA a r) ≤ (appA a r).cap) := fun hk => (stays_reserve hus hca HRA.out hc hk).2
  have HS4 : Hid (r.kind = 4 → useN (appA a r) ≤ useN a) := fun hk => (stays_settle hus HRA.out hc hk).2
  have HS5 : Hid (r.kind = 5 → totF (appA a r).used (appA a r).cl = totF a.used a.cl ∧ (appA a r).used = 0) := fun hk => (stays_close hus HRA.out hc hk).2
  clear hc hus hca
  generalize appA a r = x at *
  go_wp2_with fail
  refine HAP.out.mono ?_
  rintro e w5 ⟨XL, xl, XC, xc, rfl, o5, e5⟩
  have O5 := Lib.hid o5
  have X5 := Lib.hid (X4.out.ext e5)
  have Y5 := Lib.hid (Y4.out.ext e5)
  have E5 := Lib.hid (E4.out.trans e5)
  clear o5 e5 a0 a1 a2 a3 a4 a5 a6 r0 r1 r2 r3 r4 r5 HAP
  go_wp2_with (first
    | ((with_reducible show wpList _ _ _ ({ dst := some 5, op := Op.alloc 26, type := _, pos := _, after := _, guard := _ } :: _) _ _); refine alA _ rfl 26 rfl _ _ zero_acct ?_; intro g5 w6 hg hs1 k1 e1; have Z6 := Lib.hid k1; have X6 := Lib.hid (X5.out.ext e1); have Y6 := Lib.hid (Y5.out.ext e1); have E6 := Lib.hid (E5.out.trans e1); have O6 := Lib.hid (O5.out.ext e1); have F6 := Lib.hid (O5.out.off (g := g5) (.inr (Nat.le_of_eq hg))); have G6 := Lib.hid (show w.heap.size ≤ g5 ∧ g1 < g5 ∧ g3 < g5 from ⟨by have := E5.out.size; omega, by have := X5.out.lt; omega, by have := Y5.out.lt; omega⟩); clear hg hs1 k1 e1)
    | ((with_reducible show wpList _ _ _ ({ dst := none, op := Op.store 26 (Operand.tmp 5) _, type := _, pos := _, after := _, guard := _ } :: _) _ _); refine stA _ rfl 26 26 _ _ rfl g5 _ (acV x XL xl XC xc) rfl rfl Z6.out size_acct rfl (ac_one _ _ _ _ _) ?_; intro w7 hs k7 g7; have Z7 := Lib.hid k7; have E7 := Lib.hid (E6.out.grown g7 (fun q hq => by injection hq with hq; have := G6.out; omega)); have X7 := Lib.hid (X6.out.grown g7 (by have := G6.out; intro hh; injection hh; omega)); have Y7 := Lib.hid (Y6.out.grown g7 (by have := G6.out; intro hh; injection hh; omega)); have O7 := Lib.hid (O6.out.keep g7 F6.out.1 F6.out.2); clear hs k7 g7))
  have H1 : Hid (∀ W, Ext w7 W → Calls Tryd.prog 13 #[(.agg #[.string x.ten, .int .u64 x.cap, .int .u64 x.used, .int .u64 x.bits, .int .u64 x.per, .slice XL x.ls.length xl, .slice XC x.cl.length xc])] W (RetV W (.bool true))) := fun W e => by
    have := rright_calls x XL XC xl xc W (O7.out.rd.ext e) OX.out
    rwa [HRX.out] at this
  have H2 : Hid (∀ W, Ext w7 W → Calls Tryd.prog 16 #[(.agg #[.string x.ten, .int .u64 x.cap, .int .u64 x.used, .int .u64 x.bits, .int .u64 x.per, .slice XL x.ls.length xl, .slice XC x.cl.length xc])] W (RetV W (.int .u64 (useN x)))) := fun W e => ruse_calls x XL XC xl xc W (O7.out.rd.ext e) OX.out
  have H3 : Hid (∀ W, Ext w7 W → Calls Tryd.prog 16 #[(.agg #[.string a.ten, .int .u64 a.cap, .int .u64 a.used, .int .u64 a.bits, .int .u64 a.per, .slice AL a.ls.length cL, .slice AC a.cl.length cC])] W (RetV W (.int .u64 (useN a)))) := fun W e => ruse_calls a AL AC cL cC W (HA.out.rd.ext (E7.out.trans e)) OA.out.1
  have H4 : Hid (r.kind = 5 → ∀ W, Ext w7 W → Calls Tryd.prog 17 #[(.agg #[.string x.ten, .int .u64 x.cap, .int .u64 x.used, .int .u64 x.bits, .int .u64 x.per, .slice XL x.ls.length xl, .slice XC x.cl.length xc])] W (RetV W (.int .u64 (totF a.used a.cl)))) := fun hk W e => by
    have := rtotal_calls x XL XC xl xc W (O7.out.rd.ext e) OX.out
    rwa [(HS5.out hk).1] at this
  have H5 : Hid (∀ W, Ext w7 W → Calls Tryd.prog 17 #[(.agg #[.string a.ten, .int .u64 a.cap, .int .u64 a.used, .int .u64 a.bits, .int .u64 a.per, .slice AL a.ls.length cL, .slice AC a.cl.length cC])] W (RetV W (.int .u64 (totF a.used a.cl)))) := fun W e => rtotal_calls a AL AC cL cC W (HA.out.rd.ext (E7.out.trans e)) OA.out.1
  have KS : Hid (∀ w', Ext w7 w' → Ext w7 w' ∧ (w'.cell? ⟨g5, 0, none⟩ = some (.string x.ten) ∧ w'.cell? ⟨g5, 1, none⟩ = some (.int .u64 x.cap) ∧ w'.cell? ⟨g5, 2, none⟩ = some (.int .u64 x.used) ∧ w'.cell? ⟨g5, 3, none⟩ = some (.int .u64 x.bits) ∧ w'.cell? ⟨g5, 4, none⟩ = some (.int .u64 x.per) ∧ w'.cell? ⟨g5, 5, none⟩ = some (.slice XL x.ls.length xl) ∧ w'.cell? ⟨g5, 6, none⟩ = some (.slice XC x.cl.length xc)) ∧ (w'.cell? ⟨g1, 0, none⟩ = some (.string a.ten) ∧ w'.cell? ⟨g1, 1, none⟩ = some (.int .u64 a.cap) ∧ w'.cell? ⟨g1, 2, none⟩ = some (.int .u64 a.used) ∧ w'.cell? ⟨g1, 3, none⟩ = some (.int .u64 a.bits) ∧ w'.cell? ⟨g1, 4, none⟩ = some (.int .u64 a.per) ∧ w'.cell? ⟨g1, 5, none⟩ = some (.slice AL a.ls.length cL) ∧ w'.cell? ⟨g1, 6, none⟩ = some (.slice AC a.cl.length cC)) ∧ w'.cell? ⟨g3, 1, none⟩ = some (.int .i64 r.kind)) := fun w' e => ⟨e, ac_cells (Z7.out.ext e), ac_cells (X7.out.ext e), (Y7.out.ext e).cell 1⟩
  have HU0 : Hid (r.kind = 5 → x.used = 0) := fun hk => (HS5.out hk).2
  generalize useN x = UX at *
  generalize useN a = UA at *
  generalize totF a.used a.cl = TA at *
  have HQ3 : Hid (r.kind = 3 → decide (x.cap < UX) = false) := fun h => decide_eq_false (by have := HS3.out h; omega)
  have HQ4 : Hid (r.kind = 4 → decide (UA < UX) = false) := fun h => decide_eq_false (by have := HS4.out h; omega)
  have HQ5 : Hid (r.kind = 5 → ((x.used : Int) == 0) = true) := fun h => by show _ = _; rw [HU0.out h]; rfl
  have HKK := Lib.hid HK.out
  clear HS3 HS4 HS5 HU0 HRX HK
  have hk := HKD.out
  have HAW7 : Hid (∀ W, Ext w7 W → Calls Tryd.prog 14 #[] W (RetV W (.bool true))) := fun W e => HAW.out W (E7.out.trans e)
  clear HQ3 HQ4 HQ5 HKK
  rw [hk] at KS
  clear hk
  go_wp2_with fail
  refine wp_region_quietE w7 (Ext.refl _) (by kernel_rfl) (by kernel_rfl) ?_
  repeat (first | (apply wpq_skip; (focus rfl); (try simp only [Act.put, List.setIfInBounds_toArray, List.set_cons_zero, List.set_cons_succ])) | ((with_reducible show QGoal _ _ _ _ ({ dst := _, op := Op.call { callee := Callee.value (Operand.func 13), args := _, argTypes := _ }, type := _, pos := _, after := _, guard := _ } :: _) _); apply wpq_call (hc := H1.out); (focus rfl); (focus (intro W hW; go_simp; (first | done | with_reducible rfl))); (try simp only [Act.put, List.setIfInBounds_toArray, List.set_cons_zero, List.set_cons_succ])) | ((with_reducible show QGoal _ _ _ _ ({ dst := _, op := Op.call { callee := Callee.value (Operand.func 16), args := _, argTypes := _ }, type := _, pos := _, after := _, guard := _ } :: _) _); apply wpq_call (hc := H2.out); (focus rfl); (focus (intro W hW; go_simp; (first | done | with_reducible rfl))); (try simp only [Act.put, List.setIfInBounds_toArray, List.set_cons_zero, List.set_cons_succ])) | ((with_reducible show QGoal _ _ _ _ ({ dst := _, op := Op.call { callee := Callee.value (Operand.func 16), args := _, argTypes := _ }, type := _, pos := _, after := _, guard := _ } :: _) _); apply wpq_call (hc := H3.out); (focus rfl); (focus (intro W hW; go_simp; (first | done | with_reducible rfl))); (try simp only [Act.put, List.setIfInBounds_toArray, List.set_cons_zero, List.set_cons_succ])) | (apply wpq_take; (focus rfl); (focus (intro W hW; obtain ⟨_, ⟨a0, a1, a2, a3, a4, a5, a6⟩, ⟨b0, b1, b2, b3, b4, b5, b6⟩, r1⟩ := KS.out W hW; go_simp; (first | done | with_reducible rfl))); (try simp only [Act.put, List.setIfInBounds_toArray, List.set_cons_zero, List.set_cons_succ])))
  refine wpq_nil ?_
  intro w9 S9
  go_wp2_with fail
  refine wp_region_quietE w7 S9 (by kernel_rfl) (by kernel_rfl) ?_
  repeat (first | (apply wpq_skip; (focus rfl); (try simp only [Act.put, List.setIfInBounds_toArray, List.set_cons_zero, List.set_cons_succ])) | ((with_reducible show QGoal _ _ _ _ ({ dst := _, op := Op.call { callee := Callee.value (Operand.func 17), args := _, argTypes := _ }, type := _, pos := _, after := _, guard := _ } :: _) _); apply wpq_call (hc := (H4.out HKD.out)); (focus rfl); (focus (intro W hW; go_simp; (first | done | with_reducible rfl))); (try simp only [Act.put, List.setIfInBounds_toArray, List.set_cons_zero, List.set_cons_succ])) | ((with_reducible show QGoal _ _ _ _ ({ dst := _, op := Op.call { callee := Callee.value (Operand.func 17), args := _, argTypes := _ }, type := _, pos := _, after := _, guard := _ } :: _) _); apply wpq_call (hc := H5.out); (focus rfl); (focus (intro W hW; go_simp; (first | done | with_reducible rfl))); (try simp only [Act.put, List.setIfInBounds_toArray, List.set_cons_zero, List.set_cons_succ])) | ((with_reducible show QGoal _ _ _ _ ({ dst := _, op := Op.call { callee := Callee.value (Operand.func 14), args := _, argTypes := _ }, type := _, pos := _, after := _, guard := _ } :: _) _); apply wpq_call (hc := HAW7.out); (focus rfl); (focus (intro W hW; go_simp; (first | done | with_reducible rfl))); (try simp only [Act.put, List.setIfInBounds_toArray, List.set_cons_zero, List.set_cons_succ])) | (apply wpq_take; (focus rfl); (focus (intro W hW; obtain ⟨_, ⟨a0, a1, a2, a3, a4, a5, a6⟩, ⟨b0, b1, b2, b3, b4, b5, b6⟩, r1⟩ := KS.out W hW; go_simp; (first | done | with_reducible rfl))); (try simp only [Act.put, List.setIfInBounds_toArray, List.set_cons_zero, List.set_cons_succ])))
  refine wpq_nil ?_
  intro w13 S13
  go_wp2_with fail
  go_ret
  exact ⟨rfl, E7.out.trans S13⟩

set_option maxHeartbeats 16000000 in
theorem acctStays_3 (a : Ac) (r : Rc) (AL AC : Option Addr) (cL cC : Nat) (w : World) (ha : AcIn w a AL cL AC cC) (hr : r.ok) (ht : r.ten.size ≤ 9223372036854775807) (hL : Laid w) (hla : largeB a = false) (hbig : ¬ 100 < r.ten.size) (hra : rightB a = true) (hc : chkA a r = 0) (hk : r.kind = 3) :
    Calls Tryd.prog 3 #[acA a AL cL AC cC, rcA r] w (RetV w (.bool true)) := by
  have HKD := Lib.hid hk
  have HCD := Lib.hid hc
  clear hk hc
  have HA := Lib.hid ha
  have HR := Lib.hid hr
  have HL := Lib.hid hL
  have HLA : Hid (∀ W, Ext w W → Calls Tryd.prog 12 #[(.agg #[.string a.ten, .int .u64 a.cap, .int .u64 a.used, .int .u64 a.bits, .int .u64 a.per, .slice AL a.ls.length cL, .slice AC a.cl.length cC])] W (RetV W (.bool (largeB a)))) := fun W e => rlarge_calls a AL AC cL cC W (HA.out.rd.ext e) (by have := HA.out.ll; have := HA.out.ml; omega) (by have := HA.out.lc; have := HA.out.mc; omega) HA.out.ten HA.out.cok
  have HAW : Hid (∀ W, Ext w W → Calls Tryd.prog 14 #[] W (RetV W (.bool true))) := fun W e => awake15 W (HL.out.ext e)
  have HOA : Hid (largeB a = false → a.ok ∧ a.ls.length ≤ 40 ∧ a.cl.length ≤ 40 ∧ a.ten.size ≤ 100) := fun h => largeB_ok h HA.out
  clear ha hr hL
  unfold acA rcA
  go_enter Tryd.func3, Tryd.ntmps3
  go_wp2_with (first
    | ((with_reducible show wpList _ _ _ ({ dst := some 2, op := Op.box 26 _, type := _, pos := _, after := _, guard := _ } :: _) _ _); refine bxA _ rfl 26 _ rfl _ rfl ?_; intro g1 w1 hg hs1 k1 e1; have X0 := Lib.hid k1; have E0 := Lib.hid e1; clear hg hs1 k1 e1)
    | ((with_reducible show wpList _ _ _ ({ dst := some 3, op := Op.box 28 _, type := _, pos := _, after := _, guard := _ } :: _) _ _); refine bxA _ rfl 28 _ rfl _ rfl ?_; intro g3 w2 hg hs1 k1 e1; have X1 := Lib.hid (X0.out.ext e1); have X2 := Lib.hid k1; have E1 := Lib.hid (E0.out.trans e1); obtain ⟨a0, a1, a2, a3, a4, a5, a6⟩ := ac_cells X1.out; obtain ⟨r0, r1, r2, r3, r4, r5⟩ := rc_cells X2.out; clear hg hs1 k1 e1 X0 E0))
  refine (HLA.out _ E1.out).mono ?_
  rintro e w3 ⟨rfl, e3⟩
  have X3 := Lib.hid (X1.out.ext e3)
  have Y3 := Lib.hid (X2.out.ext e3)
  have E3 := Lib.hid (E1.out.trans e3)
  clear e3 a0 a1 a2 a3 a4 a5 a6 r0 r1 r2 r3 r4 r5 X1 X2 E1 HLA
  have OA := Lib.hid (HOA.out hla)
  rw [hla]
  clear hla HOA
  obtain ⟨a0, a1, a2, a3, a4, a5, a6⟩ := ac_cells X3.out
  obtain ⟨r0, r1, r2, r3, r4, r5⟩ := rc_cells Y3.out
  go_wp2_with fail
  refine (rright_calls a AL AC cL cC _ (HA.out.rd.ext E3.out) OA.out.1).mono ?_
  rintro e w4 ⟨rfl, e4⟩
  have X4 := Lib.hid (X3.out.ext e4)
  have Y4 := Lib.hid (Y3.out.ext e4)
  have E4 := Lib.hid (E3.out.trans e4)
  clear e4 a0 a1 a2 a3 a4 a5 a6 r0 r1 r2 r3 r4 r5 X3 Y3 E3
  have HRA := Lib.hid hra
  have HAP : Hid (Calls Tryd.prog 15 #[(.agg #[.string a.ten, .int .u64 a.cap, .int .u64 a.used, .int .u64 a.bits, .int .u64 a.per, .slice AL a.ls.length cL, .slice AC a.cl.length cC]), (.agg #[.int .u64 r.seq, .int .i64 r.kind, .string r.ten, .int .u64 r.lease, .int .u64 r.n, .int .u64 r.bits])] w4 fun e w' => ∃ XL xl XC xc, e = .returned (.tuple #[(.agg #[.string (appA a r).ten, .int .u64 (appA a r).cap, .int .u64 (appA a r).used, .int .u64 (appA a r).bits, .int .u64 (appA a r).per, .slice XL (appA a r).ls.length xl, .slice XC (appA a r).cl.length xc]), .int .i64 0]) ∧ OwnA w' w4.heap.size (appA a r) XL xl XC xc ∧ Ext w4 w') := by
    have h := aapply_calls a r AL AC cL cC w4 (HA.out.rd.ext E4.out) OA.out.1 HR.out HA.out.nl HA.out.nc (HL.out.ext E4.out)
    rw [if_pos HCD.out, HCD.out] at h
    exact h
  rw [hra]
  clear hra
  obtain ⟨a0, a1, a2, a3, a4, a5, a6⟩ := ac_cells X4.out
  obtain ⟨r0, r1, r2, r3, r4, r5⟩ := rc_cells Y4.out
  have hc := HCD.out
  have HC := Lib.hid hc
  have OX := Lib.hid (appA_ok OA.out.1 HR.out hc OA.out.2.1 OA.out.2.2.1)
  have HK := Lib.hid (chk_known hc)
  have hus := OA.out.1.2.2.1
  have hca := OA.out.1.2.1
  have HRX := Lib.hid (stays_right hus hca HRA.out hc)
  have HS3 : Hid (r.kind = 3 → useN (appA a r) ≤ (appA a r).cap) := fun hk => (stays_reserve hus hca HRA.out hc hk).2
  have HS4 : Hid (r.kind = 4 → useN (appA a r) ≤ useN a) := fun hk => (stays_settle hus HRA.out hc hk).2
  have HS5 : Hid (r.kind = 5 → totF (appA a r).used (appA a r).cl = totF a.used a.cl ∧ (appA a r).used = 0) := fun hk => (stays_close hus HRA.out hc hk).2
  clear hc hus hca
  generalize appA a r = x at *
  go_wp2_with fail
  refine HAP.out.mono ?_
  rintro e w5 ⟨XL, xl, XC, xc, rfl, o5, e5⟩
  have O5 := Lib.hid o5
  have X5 := Lib.hid (X4.out.ext e5)
  have Y5 := Lib.hid (Y4.out.ext e5)
  have E5 := Lib.hid (E4.out.trans e5)
  clear o5 e5 a0 a1 a2 a3 a4 a5 a6 r0 r1 r2 r3 r4 r5 HAP
  go_wp2_with (first
    | ((with_reducible show wpList _ _ _ ({ dst := some 5, op := Op.alloc 26, type := _, pos := _, after := _, guard := _ } :: _) _ _); refine alA _ rfl 26 rfl _ _ zero_acct ?_; intro g5 w6 hg hs1 k1 e1; have Z6 := Lib.hid k1; have X6 := Lib.hid (X5.out.ext e1); have Y6 := Lib.hid (Y5.out.ext e1); have E6 := Lib.hid (E5.out.trans e1); have O6 := Lib.hid (O5.out.ext e1); have F6 := Lib.hid (O5.out.off (g := g5) (.inr (Nat.le_of_eq hg))); have G6 := Lib.hid (show w.heap.size ≤ g5 ∧ g1 < g5 ∧ g3 < g5 from ⟨by have := E5.out.size; omega, by have := X5.out.lt; omega, by have := Y5.out.lt; omega⟩); clear hg hs1 k1 e1)
    | ((with_reducible show wpList _ _ _ ({ dst := none, op := Op.store 26 (Operand.tmp 5) _, type := _, pos := _, after := _, guard := _ } :: _) _ _); refine stA _ rfl 26 26 _ _ rfl g5 _ (acV x XL xl XC xc) rfl rfl Z6.out size_acct rfl (ac_one _ _ _ _ _) ?_; intro w7 hs k7 g7; have Z7 := Lib.hid k7; have E7 := Lib.hid (E6.out.grown g7 (fun q hq => by injection hq with hq; have := G6.out; omega)); have X7 := Lib.hid (X6.out.grown g7 (by have := G6.out; intro hh; injection hh; omega)); have Y7 := Lib.hid (Y6.out.grown g7 (by have := G6.out; intro hh; injection hh; omega)); have O7 := Lib.hid (O6.out.keep g7 F6.out.1 F6.out.2); clear hs k7 g7))
  have H1 : Hid (∀ W, Ext w7 W → Calls Tryd.prog 13 #[(.agg #[.string x.ten, .int .u64 x.cap, .int .u64 x.used, .int .u64 x.bits, .int .u64 x.per, .slice XL x.ls.length xl, .slice XC x.cl.length xc])] W (RetV W (.bool true))) := fun W e => by
    have := rright_calls x XL XC xl xc W (O7.out.rd.ext e) OX.out
    rwa [HRX.out] at this
  have H2 : Hid (∀ W, Ext w7 W → Calls Tryd.prog 16 #[(.agg #[.string x.ten, .int .u64 x.cap, .int .u64 x.used, .int .u64 x.bits, .int .u64 x.per, .slice XL x.ls.length xl, .slice XC x.cl.length xc])] W (RetV W (.int .u64 (useN x)))) := fun W e => ruse_calls x XL XC xl xc W (O7.out.rd.ext e) OX.out
  have H3 : Hid (∀ W, Ext w7 W → Calls Tryd.prog 16 #[(.agg #[.string a.ten, .int .u64 a.cap, .int .u64 a.used, .int .u64 a.bits, .int .u64 a.per, .slice AL a.ls.length cL, .slice AC a.cl.length cC])] W (RetV W (.int .u64 (useN a)))) := fun W e => ruse_calls a AL AC cL cC W (HA.out.rd.ext (E7.out.trans e)) OA.out.1
  have H4 : Hid (r.kind = 5 → ∀ W, Ext w7 W → Calls Tryd.prog 17 #[(.agg #[.string x.ten, .int .u64 x.cap, .int .u64 x.used, .int .u64 x.bits, .int .u64 x.per, .slice XL x.ls.length xl, .slice XC x.cl.length xc])] W (RetV W (.int .u64 (totF a.used a.cl)))) := fun hk W e => by
    have := rtotal_calls x XL XC xl xc W (O7.out.rd.ext e) OX.out
    rwa [(HS5.out hk).1] at this
  have H5 : Hid (∀ W, Ext w7 W → Calls Tryd.prog 17 #[(.agg #[.string a.ten, .int .u64 a.cap, .int .u64 a.used, .int .u64 a.bits, .int .u64 a.per, .slice AL a.ls.length cL, .slice AC a.cl.length cC])] W (RetV W (.int .u64 (totF a.used a.cl)))) := fun W e => rtotal_calls a AL AC cL cC W (HA.out.rd.ext (E7.out.trans e)) OA.out.1
  have KS : Hid (∀ w', Ext w7 w' → Ext w7 w' ∧ (w'.cell? ⟨g5, 0, none⟩ = some (.string x.ten) ∧ w'.cell? ⟨g5, 1, none⟩ = some (.int .u64 x.cap) ∧ w'.cell? ⟨g5, 2, none⟩ = some (.int .u64 x.used) ∧ w'.cell? ⟨g5, 3, none⟩ = some (.int .u64 x.bits) ∧ w'.cell? ⟨g5, 4, none⟩ = some (.int .u64 x.per) ∧ w'.cell? ⟨g5, 5, none⟩ = some (.slice XL x.ls.length xl) ∧ w'.cell? ⟨g5, 6, none⟩ = some (.slice XC x.cl.length xc)) ∧ (w'.cell? ⟨g1, 0, none⟩ = some (.string a.ten) ∧ w'.cell? ⟨g1, 1, none⟩ = some (.int .u64 a.cap) ∧ w'.cell? ⟨g1, 2, none⟩ = some (.int .u64 a.used) ∧ w'.cell? ⟨g1, 3, none⟩ = some (.int .u64 a.bits) ∧ w'.cell? ⟨g1, 4, none⟩ = some (.int .u64 a.per) ∧ w'.cell? ⟨g1, 5, none⟩ = some (.slice AL a.ls.length cL) ∧ w'.cell? ⟨g1, 6, none⟩ = some (.slice AC a.cl.length cC)) ∧ w'.cell? ⟨g3, 1, none⟩ = some (.int .i64 r.kind)) := fun w' e => ⟨e, ac_cells (Z7.out.ext e), ac_cells (X7.out.ext e), (Y7.out.ext e).cell 1⟩
  have HU0 : Hid (r.kind = 5 → x.used = 0) := fun hk => (HS5.out hk).2
  generalize useN x = UX at *
  generalize useN a = UA at *
  generalize totF a.used a.cl = TA at *
  have HQ3 : Hid (r.kind = 3 → decide (x.cap < UX) = false) := fun h => decide_eq_false (by have := HS3.out h; omega)
  have HQ4 : Hid (r.kind = 4 → decide (UA < UX) = false) := fun h => decide_eq_false (by have := HS4.out h; omega)
  have HQ5 : Hid (r.kind = 5 → ((x.used : Int) == 0) = true) := fun h => by show _ = _; rw [HU0.out h]; rfl
  have HKK := Lib.hid HK.out
  clear HS3 HS4 HS5 HU0 HRX HK
  have hk := HKD.out
  have q3 := HQ3.out hk
  have HAW7 : Hid (∀ W, Ext w7 W → Calls Tryd.prog 14 #[] W (RetV W (.bool true))) := fun W e => HAW.out W (E7.out.trans e)
  clear HQ3 HQ4 HQ5 HKK
  rw [hk] at KS
  clear hk
  go_wp2_with fail
  refine wp_region_quietE w7 (Ext.refl _) (by kernel_rfl) (by kernel_rfl) ?_
  repeat (first | (apply wpq_skip; (focus rfl); (try simp only [Act.put, List.setIfInBounds_toArray, List.set_cons_zero, List.set_cons_succ])) | ((with_reducible show QGoal _ _ _ _ ({ dst := _, op := Op.call { callee := Callee.value (Operand.func 13), args := _, argTypes := _ }, type := _, pos := _, after := _, guard := _ } :: _) _); apply wpq_call (hc := H1.out); (focus rfl); (focus (intro W hW; go_simp; (first | done | with_reducible rfl))); (try simp only [Act.put, List.setIfInBounds_toArray, List.set_cons_zero, List.set_cons_succ])) | ((with_reducible show QGoal _ _ _ _ ({ dst := _, op := Op.call { callee := Callee.value (Operand.func 16), args := _, argTypes := _ }, type := _, pos := _, after := _, guard := _ } :: _) _); apply wpq_call (hc := H2.out); (focus rfl); (focus (intro W hW; go_simp; (first | done | with_reducible rfl))); (try simp only [Act.put, List.setIfInBounds_toArray, List.set_cons_zero, List.set_cons_succ])) | ((with_reducible show QGoal _ _ _ _ ({ dst := _, op := Op.call { callee := Callee.value (Operand.func 16), args := _, argTypes := _ }, type := _, pos := _, after := _, guard := _ } :: _) _); apply wpq_call (hc := H3.out); (focus rfl); (focus (intro W hW; go_simp; (first | done | with_reducible rfl))); (try simp only [Act.put, List.setIfInBounds_toArray, List.set_cons_zero, List.set_cons_succ])) | (apply wpq_take; (focus rfl); (focus (intro W hW; obtain ⟨_, ⟨a0, a1, a2, a3, a4, a5, a6⟩, ⟨b0, b1, b2, b3, b4, b5, b6⟩, r1⟩ := KS.out W hW; go_simp; (first | done | with_reducible rfl))); (try simp only [Act.put, List.setIfInBounds_toArray, List.set_cons_zero, List.set_cons_succ])))
  refine wpq_nil ?_
  intro w9 S9
  go_wp2_with fail
  refine wp_region_quietE w7 S9 (by kernel_rfl) (by kernel_rfl) ?_
  repeat (first | (apply wpq_skip; (focus rfl); (try simp only [Act.put, List.setIfInBounds_toArray, List.set_cons_zero, List.set_cons_succ])) | ((with_reducible show QGoal _ _ _ _ ({ dst := _, op := Op.call { callee := Callee.value (Operand.func 17), args := _, argTypes := _ }, type := _, pos := _, after := _, guard := _ } :: _) _); apply wpq_call (hc := (H4.out HKD.out)); (focus rfl); (focus (intro W hW; go_simp; (first | done | with_reducible rfl))); (try simp only [Act.put, List.setIfInBounds_toArray, List.set_cons_zero, List.set_cons_succ])) | ((with_reducible show QGoal _ _ _ _ ({ dst := _, op := Op.call { callee := Callee.value (Operand.func 17), args := _, argTypes := _ }, type := _, pos := _, after := _, guard := _ } :: _) _); apply wpq_call (hc := H5.out); (focus rfl); (focus (intro W hW; go_simp; (first | done | with_reducible rfl))); (try simp only [Act.put, List.setIfInBounds_toArray, List.set_cons_zero, List.set_cons_succ])) | ((with_reducible show QGoal _ _ _ _ ({ dst := _, op := Op.call { callee := Callee.value (Operand.func 14), args := _, argTypes := _ }, type := _, pos := _, after := _, guard := _ } :: _) _); apply wpq_call (hc := HAW7.out); (focus rfl); (focus (intro W hW; go_simp; (first | done | with_reducible rfl))); (try simp only [Act.put, List.setIfInBounds_toArray, List.set_cons_zero, List.set_cons_succ])) | (apply wpq_take; (focus rfl); (focus (intro W hW; obtain ⟨_, ⟨a0, a1, a2, a3, a4, a5, a6⟩, ⟨b0, b1, b2, b3, b4, b5, b6⟩, r1⟩ := KS.out W hW; go_simp; (first | done | with_reducible rfl))); (try simp only [Act.put, List.setIfInBounds_toArray, List.set_cons_zero, List.set_cons_succ])))
  refine wpq_nil ?_
  intro w13 S13
  go_wp2_with fail
  go_ret
  exact ⟨rfl, E7.out.trans S13⟩

set_option maxHeartbeats 16000000 in
theorem acctStays_4 (a : Ac) (r : Rc) (AL AC : Option Addr) (cL cC : Nat) (w : World) (ha : AcIn w a AL cL AC cC) (hr : r.ok) (ht : r.ten.size ≤ 9223372036854775807) (hL : Laid w) (hla : largeB a = false) (hbig : ¬ 100 < r.ten.size) (hra : rightB a = true) (hc : chkA a r = 0) (hk : r.kind = 4) :
    Calls Tryd.prog 3 #[acA a AL cL AC cC, rcA r] w (RetV w (.bool true)) := by
  have HKD := Lib.hid hk
  have HCD := Lib.hid hc
  clear hk hc
  have HA := Lib.hid ha
  have HR := Lib.hid hr
  have HL := Lib.hid hL
  have HLA : Hid (∀ W, Ext w W → Calls Tryd.prog 12 #[(.agg #[.string a.ten, .int .u64 a.cap, .int .u64 a.used, .int .u64 a.bits, .int .u64 a.per, .slice AL a.ls.length cL, .slice AC a.cl.length cC])] W (RetV W (.bool (largeB a)))) := fun W e => rlarge_calls a AL AC cL cC W (HA.out.rd.ext e) (by have := HA.out.ll; have := HA.out.ml; omega) (by have := HA.out.lc; have := HA.out.mc; omega) HA.out.ten HA.out.cok
  have HAW : Hid (∀ W, Ext w W → Calls Tryd.prog 14 #[] W (RetV W (.bool true))) := fun W e => awake15 W (HL.out.ext e)
  have HOA : Hid (largeB a = false → a.ok ∧ a.ls.length ≤ 40 ∧ a.cl.length ≤ 40 ∧ a.ten.size ≤ 100) := fun h => largeB_ok h HA.out
  clear ha hr hL
  unfold acA rcA
  go_enter Tryd.func3, Tryd.ntmps3
  go_wp2_with (first
    | ((with_reducible show wpList _ _ _ ({ dst := some 2, op := Op.box 26 _, type := _, pos := _, after := _, guard := _ } :: _) _ _); refine bxA _ rfl 26 _ rfl _ rfl ?_; intro g1 w1 hg hs1 k1 e1; have X0 := Lib.hid k1; have E0 := Lib.hid e1; clear hg hs1 k1 e1)
    | ((with_reducible show wpList _ _ _ ({ dst := some 3, op := Op.box 28 _, type := _, pos := _, after := _, guard := _ } :: _) _ _); refine bxA _ rfl 28 _ rfl _ rfl ?_; intro g3 w2 hg hs1 k1 e1; have X1 := Lib.hid (X0.out.ext e1); have X2 := Lib.hid k1; have E1 := Lib.hid (E0.out.trans e1); obtain ⟨a0, a1, a2, a3, a4, a5, a6⟩ := ac_cells X1.out; obtain ⟨r0, r1, r2, r3, r4, r5⟩ := rc_cells X2.out; clear hg hs1 k1 e1 X0 E0))
  refine (HLA.out _ E1.out).mono ?_
  rintro e w3 ⟨rfl, e3⟩
  have X3 := Lib.hid (X1.out.ext e3)
  have Y3 := Lib.hid (X2.out.ext e3)
  have E3 := Lib.hid (E1.out.trans e3)
  clear e3 a0 a1 a2 a3 a4 a5 a6 r0 r1 r2 r3 r4 r5 X1 X2 E1 HLA
  have OA := Lib.hid (HOA.out hla)
  rw [hla]
  clear hla HOA
  obtain ⟨a0, a1, a2, a3, a4, a5, a6⟩ := ac_cells X3.out
  obtain ⟨r0, r1, r2, r3, r4, r5⟩ := rc_cells Y3.out
  go_wp2_with fail
  refine (rright_calls a AL AC cL cC _ (HA.out.rd.ext E3.out) OA.out.1).mono ?_
  rintro e w4 ⟨rfl, e4⟩
  have X4 := Lib.hid (X3.out.ext e4)
  have Y4 := Lib.hid (Y3.out.ext e4)
  have E4 := Lib.hid (E3.out.trans e4)
  clear e4 a0 a1 a2 a3 a4 a5 a6 r0 r1 r2 r3 r4 r5 X3 Y3 E3
  have HRA := Lib.hid hra
  have HAP : Hid (Calls Tryd.prog 15 #[(.agg #[.string a.ten, .int .u64 a.cap, .int .u64 a.used, .int .u64 a.bits, .int .u64 a.per, .slice AL a.ls.length cL, .slice AC a.cl.length cC]), (.agg #[.int .u64 r.seq, .int .i64 r.kind, .string r.ten, .int .u64 r.lease, .int .u64 r.n, .int .u64 r.bits])] w4 fun e w' => ∃ XL xl XC xc, e = .returned (.tuple #[(.agg #[.string (appA a r).ten, .int .u64 (appA a r).cap, .int .u64 (appA a r).used, .int .u64 (appA a r).bits, .int .u64 (appA a r).per, .slice XL (appA a r).ls.length xl, .slice XC (appA a r).cl.length xc]), .int .i64 0]) ∧ OwnA w' w4.heap.size (appA a r) XL xl XC xc ∧ Ext w4 w') := by
    have h := aapply_calls a r AL AC cL cC w4 (HA.out.rd.ext E4.out) OA.out.1 HR.out HA.out.nl HA.out.nc (HL.out.ext E4.out)
    rw [if_pos HCD.out, HCD.out] at h
    exact h
  rw [hra]
  clear hra
  obtain ⟨a0, a1, a2, a3, a4, a5, a6⟩ := ac_cells X4.out
  obtain ⟨r0, r1, r2, r3, r4, r5⟩ := rc_cells Y4.out
  have hc := HCD.out
  have HC := Lib.hid hc
  have OX := Lib.hid (appA_ok OA.out.1 HR.out hc OA.out.2.1 OA.out.2.2.1)
  have HK := Lib.hid (chk_known hc)
  have hus := OA.out.1.2.2.1
  have hca := OA.out.1.2.1
  have HRX := Lib.hid (stays_right hus hca HRA.out hc)
  have HS3 : Hid (r.kind = 3 → useN (appA a r) ≤ (appA a r).cap) := fun hk => (stays_reserve hus hca HRA.out hc hk).2
  have HS4 : Hid (r.kind = 4 → useN (appA a r) ≤ useN a) := fun hk => (stays_settle hus HRA.out hc hk).2
  have HS5 : Hid (r.kind = 5 → totF (appA a r).used (appA a r).cl = totF a.used a.cl ∧ (appA a r).used = 0) := fun hk => (stays_close hus HRA.out hc hk).2
  clear hc hus hca
  generalize appA a r = x at *
  go_wp2_with fail
  refine HAP.out.mono ?_
  rintro e w5 ⟨XL, xl, XC, xc, rfl, o5, e5⟩
  have O5 := Lib.hid o5
  have X5 := Lib.hid (X4.out.ext e5)
  have Y5 := Lib.hid (Y4.out.ext e5)
  have E5 := Lib.hid (E4.out.trans e5)
  clear o5 e5 a0 a1 a2 a3 a4 a5 a6 r0 r1 r2 r3 r4 r5 HAP
  go_wp2_with (first
    | ((with_reducible show wpList _ _ _ ({ dst := some 5, op := Op.alloc 26, type := _, pos := _, after := _, guard := _ } :: _) _ _); refine alA _ rfl 26 rfl _ _ zero_acct ?_; intro g5 w6 hg hs1 k1 e1; have Z6 := Lib.hid k1; have X6 := Lib.hid (X5.out.ext e1); have Y6 := Lib.hid (Y5.out.ext e1); have E6 := Lib.hid (E5.out.trans e1); have O6 := Lib.hid (O5.out.ext e1); have F6 := Lib.hid (O5.out.off (g := g5) (.inr (Nat.le_of_eq hg))); have G6 := Lib.hid (show w.heap.size ≤ g5 ∧ g1 < g5 ∧ g3 < g5 from ⟨by have := E5.out.size; omega, by have := X5.out.lt; omega, by have := Y5.out.lt; omega⟩); clear hg hs1 k1 e1)
    | ((with_reducible show wpList _ _ _ ({ dst := none, op := Op.store 26 (Operand.tmp 5) _, type := _, pos := _, after := _, guard := _ } :: _) _ _); refine stA _ rfl 26 26 _ _ rfl g5 _ (acV x XL xl XC xc) rfl rfl Z6.out size_acct rfl (ac_one _ _ _ _ _) ?_; intro w7 hs k7 g7; have Z7 := Lib.hid k7; have E7 := Lib.hid (E6.out.grown g7 (fun q hq => by injection hq with hq; have := G6.out; omega)); have X7 := Lib.hid (X6.out.grown g7 (by have := G6.out; intro hh; injection hh; omega)); have Y7 := Lib.hid (Y6.out.grown g7 (by have := G6.out; intro hh; injection hh; omega)); have O7 := Lib.hid (O6.out.keep g7 F6.out.1 F6.out.2); clear hs k7 g7))
  have H1 : Hid (∀ W, Ext w7 W → Calls Tryd.prog 13 #[(.agg #[.string x.ten, .int .u64 x.cap, .int .u64 x.used, .int .u64 x.bits, .int .u64 x.per, .slice XL x.ls.length xl, .slice XC x.cl.length xc])] W (RetV W (.bool true))) := fun W e => by
    have := rright_calls x XL XC xl xc W (O7.out.rd.ext e) OX.out
    rwa [HRX.out] at this
  have H2 : Hid (∀ W, Ext w7 W → Calls Tryd.prog 16 #[(.agg #[.string x.ten, .int .u64 x.cap, .int .u64 x.used, .int .u64 x.bits, .int .u64 x.per, .slice XL x.ls.length xl, .slice XC x.cl.length xc])] W (RetV W (.int .u64 (useN x)))) := fun W e => ruse_calls x XL XC xl xc W (O7.out.rd.ext e) OX.out
  have H3 : Hid (∀ W, Ext w7 W → Calls Tryd.prog 16 #[(.agg #[.string a.ten, .int .u64 a.cap, .int .u64 a.used, .int .u64 a.bits, .int .u64 a.per, .slice AL a.ls.length cL, .slice AC a.cl.length cC])] W (RetV W (.int .u64 (useN a)))) := fun W e => ruse_calls a AL AC cL cC W (HA.out.rd.ext (E7.out.trans e)) OA.out.1
  have H4 : Hid (r.kind = 5 → ∀ W, Ext w7 W → Calls Tryd.prog 17 #[(.agg #[.string x.ten, .int .u64 x.cap, .int .u64 x.used, .int .u64 x.bits, .int .u64 x.per, .slice XL x.ls.length xl, .slice XC x.cl.length xc])] W (RetV W (.int .u64 (totF a.used a.cl)))) := fun hk W e => by
    have := rtotal_calls x XL XC xl xc W (O7.out.rd.ext e) OX.out
    rwa [(HS5.out hk).1] at this
  have H5 : Hid (∀ W, Ext w7 W → Calls Tryd.prog 17 #[(.agg #[.string a.ten, .int .u64 a.cap, .int .u64 a.used, .int .u64 a.bits, .int .u64 a.per, .slice AL a.ls.length cL, .slice AC a.cl.length cC])] W (RetV W (.int .u64 (totF a.used a.cl)))) := fun W e => rtotal_calls a AL AC cL cC W (HA.out.rd.ext (E7.out.trans e)) OA.out.1
  have KS : Hid (∀ w', Ext w7 w' → Ext w7 w' ∧ (w'.cell? ⟨g5, 0, none⟩ = some (.string x.ten) ∧ w'.cell? ⟨g5, 1, none⟩ = some (.int .u64 x.cap) ∧ w'.cell? ⟨g5, 2, none⟩ = some (.int .u64 x.used) ∧ w'.cell? ⟨g5, 3, none⟩ = some (.int .u64 x.bits) ∧ w'.cell? ⟨g5, 4, none⟩ = some (.int .u64 x.per) ∧ w'.cell? ⟨g5, 5, none⟩ = some (.slice XL x.ls.length xl) ∧ w'.cell? ⟨g5, 6, none⟩ = some (.slice XC x.cl.length xc)) ∧ (w'.cell? ⟨g1, 0, none⟩ = some (.string a.ten) ∧ w'.cell? ⟨g1, 1, none⟩ = some (.int .u64 a.cap) ∧ w'.cell? ⟨g1, 2, none⟩ = some (.int .u64 a.used) ∧ w'.cell? ⟨g1, 3, none⟩ = some (.int .u64 a.bits) ∧ w'.cell? ⟨g1, 4, none⟩ = some (.int .u64 a.per) ∧ w'.cell? ⟨g1, 5, none⟩ = some (.slice AL a.ls.length cL) ∧ w'.cell? ⟨g1, 6, none⟩ = some (.slice AC a.cl.length cC)) ∧ w'.cell? ⟨g3, 1, none⟩ = some (.int .i64 r.kind)) := fun w' e => ⟨e, ac_cells (Z7.out.ext e), ac_cells (X7.out.ext e), (Y7.out.ext e).cell 1⟩
  have HU0 : Hid (r.kind = 5 → x.used = 0) := fun hk => (HS5.out hk).2
  generalize useN x = UX at *
  generalize useN a = UA at *
  generalize totF a.used a.cl = TA at *
  have HQ3 : Hid (r.kind = 3 → decide (x.cap < UX) = false) := fun h => decide_eq_false (by have := HS3.out h; omega)
  have HQ4 : Hid (r.kind = 4 → decide (UA < UX) = false) := fun h => decide_eq_false (by have := HS4.out h; omega)
  have HQ5 : Hid (r.kind = 5 → ((x.used : Int) == 0) = true) := fun h => by show _ = _; rw [HU0.out h]; rfl
  have HKK := Lib.hid HK.out
  clear HS3 HS4 HS5 HU0 HRX HK
  have hk := HKD.out
  have q3 := HQ4.out hk
  have HAW7 : Hid (∀ W, Ext w7 W → Calls Tryd.prog 14 #[] W (RetV W (.bool true))) := fun W e => HAW.out W (E7.out.trans e)
  clear HQ3 HQ4 HQ5 HKK
  rw [hk] at KS
  clear hk
  go_wp2_with fail
  refine wp_region_quietE w7 (Ext.refl _) (by kernel_rfl) (by kernel_rfl) ?_
  repeat (first | (apply wpq_skip; (focus rfl); (try simp only [Act.put, List.setIfInBounds_toArray, List.set_cons_zero, List.set_cons_succ])) | ((with_reducible show QGoal _ _ _ _ ({ dst := _, op := Op.call { callee := Callee.value (Operand.func 13), args := _, argTypes := _ }, type := _, pos := _, after := _, guard := _ } :: _) _); apply wpq_call (hc := H1.out); (focus rfl); (focus (intro W hW; go_simp; (first | done | with_reducible rfl))); (try simp only [Act.put, List.setIfInBounds_toArray, List.set_cons_zero, List.set_cons_succ])) | ((with_reducible show QGoal _ _ _ _ ({ dst := _, op := Op.call { callee := Callee.value (Operand.func 16), args := _, argTypes := _ }, type := _, pos := _, after := _, guard := _ } :: _) _); apply wpq_call (hc := H2.out); (focus rfl); (focus (intro W hW; go_simp; (first | done | with_reducible rfl))); (try simp only [Act.put, List.setIfInBounds_toArray, List.set_cons_zero, List.set_cons_succ])) | ((with_reducible show QGoal _ _ _ _ ({ dst := _, op := Op.call { callee := Callee.value (Operand.func 16), args := _, argTypes := _ }, type := _, pos := _, after := _, guard := _ } :: _) _); apply wpq_call (hc := H3.out); (focus rfl); (focus (intro W hW; go_simp; (first | done | with_reducible rfl))); (try simp only [Act.put, List.setIfInBounds_toArray, List.set_cons_zero, List.set_cons_succ])) | (apply wpq_take; (focus rfl); (focus (intro W hW; obtain ⟨_, ⟨a0, a1, a2, a3, a4, a5, a6⟩, ⟨b0, b1, b2, b3, b4, b5, b6⟩, r1⟩ := KS.out W hW; go_simp; (first | done | with_reducible rfl))); (try simp only [Act.put, List.setIfInBounds_toArray, List.set_cons_zero, List.set_cons_succ])))
  refine wpq_nil ?_
  intro w9 S9
  go_wp2_with fail
  refine wp_region_quietE w7 S9 (by kernel_rfl) (by kernel_rfl) ?_
  repeat (first | (apply wpq_skip; (focus rfl); (try simp only [Act.put, List.setIfInBounds_toArray, List.set_cons_zero, List.set_cons_succ])) | ((with_reducible show QGoal _ _ _ _ ({ dst := _, op := Op.call { callee := Callee.value (Operand.func 17), args := _, argTypes := _ }, type := _, pos := _, after := _, guard := _ } :: _) _); apply wpq_call (hc := (H4.out HKD.out)); (focus rfl); (focus (intro W hW; go_simp; (first | done | with_reducible rfl))); (try simp only [Act.put, List.setIfInBounds_toArray, List.set_cons_zero, List.set_cons_succ])) | ((with_reducible show QGoal _ _ _ _ ({ dst := _, op := Op.call { callee := Callee.value (Operand.func 17), args := _, argTypes := _ }, type := _, pos := _, after := _, guard := _ } :: _) _); apply wpq_call (hc := H5.out); (focus rfl); (focus (intro W hW; go_simp; (first | done | with_reducible rfl))); (try simp only [Act.put, List.setIfInBounds_toArray, List.set_cons_zero, List.set_cons_succ])) | ((with_reducible show QGoal _ _ _ _ ({ dst := _, op := Op.call { callee := Callee.value (Operand.func 14), args := _, argTypes := _ }, type := _, pos := _, after := _, guard := _ } :: _) _); apply wpq_call (hc := HAW7.out); (focus rfl); (focus (intro W hW; go_simp; (first | done | with_reducible rfl))); (try simp only [Act.put, List.setIfInBounds_toArray, List.set_cons_zero, List.set_cons_succ])) | (apply wpq_take; (focus rfl); (focus (intro W hW; obtain ⟨_, ⟨a0, a1, a2, a3, a4, a5, a6⟩, ⟨b0, b1, b2, b3, b4, b5, b6⟩, r1⟩ := KS.out W hW; go_simp; (first | done | with_reducible rfl))); (try simp only [Act.put, List.setIfInBounds_toArray, List.set_cons_zero, List.set_cons_succ])))
  refine wpq_nil ?_
  intro w13 S13
  go_wp2_with fail
  go_ret
  exact ⟨rfl, E7.out.trans S13⟩

set_option maxHeartbeats 16000000 in
theorem acctStays_5 (a : Ac) (r : Rc) (AL AC : Option Addr) (cL cC : Nat) (w : World) (ha : AcIn w a AL cL AC cC) (hr : r.ok) (ht : r.ten.size ≤ 9223372036854775807) (hL : Laid w) (hla : largeB a = false) (hbig : ¬ 100 < r.ten.size) (hra : rightB a = true) (hc : chkA a r = 0) (hk : r.kind = 5) :
    Calls Tryd.prog 3 #[acA a AL cL AC cC, rcA r] w (RetV w (.bool true)) := by
  have HKD := Lib.hid hk
  have HCD := Lib.hid hc
  clear hk hc
  have HA := Lib.hid ha
  have HR := Lib.hid hr
  have HL := Lib.hid hL
  have HLA : Hid (∀ W, Ext w W → Calls Tryd.prog 12 #[(.agg #[.string a.ten, .int .u64 a.cap, .int .u64 a.used, .int .u64 a.bits, .int .u64 a.per, .slice AL a.ls.length cL, .slice AC a.cl.length cC])] W (RetV W (.bool (largeB a)))) := fun W e => rlarge_calls a AL AC cL cC W (HA.out.rd.ext e) (by have := HA.out.ll; have := HA.out.ml; omega) (by have := HA.out.lc; have := HA.out.mc; omega) HA.out.ten HA.out.cok
  have HAW : Hid (∀ W, Ext w W → Calls Tryd.prog 14 #[] W (RetV W (.bool true))) := fun W e => awake15 W (HL.out.ext e)
  have HOA : Hid (largeB a = false → a.ok ∧ a.ls.length ≤ 40 ∧ a.cl.length ≤ 40 ∧ a.ten.size ≤ 100) := fun h => largeB_ok h HA.out
  clear ha hr hL
  unfold acA rcA
  go_enter Tryd.func3, Tryd.ntmps3
  go_wp2_with (first
    | ((with_reducible show wpList _ _ _ ({ dst := some 2, op := Op.box 26 _, type := _, pos := _, after := _, guard := _ } :: _) _ _); refine bxA _ rfl 26 _ rfl _ rfl ?_; intro g1 w1 hg hs1 k1 e1; have X0 := Lib.hid k1; have E0 := Lib.hid e1; clear hg hs1 k1 e1)
    | ((with_reducible show wpList _ _ _ ({ dst := some 3, op := Op.box 28 _, type := _, pos := _, after := _, guard := _ } :: _) _ _); refine bxA _ rfl 28 _ rfl _ rfl ?_; intro g3 w2 hg hs1 k1 e1; have X1 := Lib.hid (X0.out.ext e1); have X2 := Lib.hid k1; have E1 := Lib.hid (E0.out.trans e1); obtain ⟨a0, a1, a2, a3, a4, a5, a6⟩ := ac_cells X1.out; obtain ⟨r0, r1, r2, r3, r4, r5⟩ := rc_cells X2.out; clear hg hs1 k1 e1 X0 E0))
  refine (HLA.out _ E1.out).mono ?_
  rintro e w3 ⟨rfl, e3⟩
  have X3 := Lib.hid (X1.out.ext e3)
  have Y3 := Lib.hid (X2.out.ext e3)
  have E3 := Lib.hid (E1.out.trans e3)
  clear e3 a0 a1 a2 a3 a4 a5 a6 r0 r1 r2 r3 r4 r5 X1 X2 E1 HLA
  have OA := Lib.hid (HOA.out hla)
  rw [hla]
  clear hla HOA
  obtain ⟨a0, a1, a2, a3, a4, a5, a6⟩ := ac_cells X3.out
  obtain ⟨r0, r1, r2, r3, r4, r5⟩ := rc_cells Y3.out
  go_wp2_with fail
  refine (rright_calls a AL AC cL cC _ (HA.out.rd.ext E3.out) OA.out.1).mono ?_
  rintro e w4 ⟨rfl, e4⟩
  have X4 := Lib.hid (X3.out.ext e4)
  have Y4 := Lib.hid (Y3.out.ext e4)
  have E4 := Lib.hid (E3.out.trans e4)
  clear e4 a0 a1 a2 a3 a4 a5 a6 r0 r1 r2 r3 r4 r5 X3 Y3 E3
  have HRA := Lib.hid hra
  have HAP : Hid (Calls Tryd.prog 15 #[(.agg #[.string a.ten, .int .u64 a.cap, .int .u64 a.used, .int .u64 a.bits, .int .u64 a.per, .slice AL a.ls.length cL, .slice AC a.cl.length cC]), (.agg #[.int .u64 r.seq, .int .i64 r.kind, .string r.ten, .int .u64 r.lease, .int .u64 r.n, .int .u64 r.bits])] w4 fun e w' => ∃ XL xl XC xc, e = .returned (.tuple #[(.agg #[.string (appA a r).ten, .int .u64 (appA a r).cap, .int .u64 (appA a r).used, .int .u64 (appA a r).bits, .int .u64 (appA a r).per, .slice XL (appA a r).ls.length xl, .slice XC (appA a r).cl.length xc]), .int .i64 0]) ∧ OwnA w' w4.heap.size (appA a r) XL xl XC xc ∧ Ext w4 w') := by
    have h := aapply_calls a r AL AC cL cC w4 (HA.out.rd.ext E4.out) OA.out.1 HR.out HA.out.nl HA.out.nc (HL.out.ext E4.out)
    rw [if_pos HCD.out, HCD.out] at h
    exact h
  rw [hra]
  clear hra
  obtain ⟨a0, a1, a2, a3, a4, a5, a6⟩ := ac_cells X4.out
  obtain ⟨r0, r1, r2, r3, r4, r5⟩ := rc_cells Y4.out
  have hc := HCD.out
  have HC := Lib.hid hc
  have OX := Lib.hid (appA_ok OA.out.1 HR.out hc OA.out.2.1 OA.out.2.2.1)
  have HK := Lib.hid (chk_known hc)
  have hus := OA.out.1.2.2.1
  have hca := OA.out.1.2.1
  have HRX := Lib.hid (stays_right hus hca HRA.out hc)
  have HS3 : Hid (r.kind = 3 → useN (appA a r) ≤ (appA a r).cap) := fun hk => (stays_reserve hus hca HRA.out hc hk).2
  have HS4 : Hid (r.kind = 4 → useN (appA a r) ≤ useN a) := fun hk => (stays_settle hus HRA.out hc hk).2
  have HS5 : Hid (r.kind = 5 → totF (appA a r).used (appA a r).cl = totF a.used a.cl ∧ (appA a r).used = 0) := fun hk => (stays_close hus HRA.out hc hk).2
  clear hc hus hca
  generalize appA a r = x at *
  go_wp2_with fail
  refine HAP.out.mono ?_
  rintro e w5 ⟨XL, xl, XC, xc, rfl, o5, e5⟩
  have O5 := Lib.hid o5
  have X5 := Lib.hid (X4.out.ext e5)
  have Y5 := Lib.hid (Y4.out.ext e5)
  have E5 := Lib.hid (E4.out.trans e5)
  clear o5 e5 a0 a1 a2 a3 a4 a5 a6 r0 r1 r2 r3 r4 r5 HAP
  go_wp2_with (first
    | ((with_reducible show wpList _ _ _ ({ dst := some 5, op := Op.alloc 26, type := _, pos := _, after := _, guard := _ } :: _) _ _); refine alA _ rfl 26 rfl _ _ zero_acct ?_; intro g5 w6 hg hs1 k1 e1; have Z6 := Lib.hid k1; have X6 := Lib.hid (X5.out.ext e1); have Y6 := Lib.hid (Y5.out.ext e1); have E6 := Lib.hid (E5.out.trans e1); have O6 := Lib.hid (O5.out.ext e1); have F6 := Lib.hid (O5.out.off (g := g5) (.inr (Nat.le_of_eq hg))); have G6 := Lib.hid (show w.heap.size ≤ g5 ∧ g1 < g5 ∧ g3 < g5 from ⟨by have := E5.out.size; omega, by have := X5.out.lt; omega, by have := Y5.out.lt; omega⟩); clear hg hs1 k1 e1)
    | ((with_reducible show wpList _ _ _ ({ dst := none, op := Op.store 26 (Operand.tmp 5) _, type := _, pos := _, after := _, guard := _ } :: _) _ _); refine stA _ rfl 26 26 _ _ rfl g5 _ (acV x XL xl XC xc) rfl rfl Z6.out size_acct rfl (ac_one _ _ _ _ _) ?_; intro w7 hs k7 g7; have Z7 := Lib.hid k7; have E7 := Lib.hid (E6.out.grown g7 (fun q hq => by injection hq with hq; have := G6.out; omega)); have X7 := Lib.hid (X6.out.grown g7 (by have := G6.out; intro hh; injection hh; omega)); have Y7 := Lib.hid (Y6.out.grown g7 (by have := G6.out; intro hh; injection hh; omega)); have O7 := Lib.hid (O6.out.keep g7 F6.out.1 F6.out.2); clear hs k7 g7))
  have H1 : Hid (∀ W, Ext w7 W → Calls Tryd.prog 13 #[(.agg #[.string x.ten, .int .u64 x.cap, .int .u64 x.used, .int .u64 x.bits, .int .u64 x.per, .slice XL x.ls.length xl, .slice XC x.cl.length xc])] W (RetV W (.bool true))) := fun W e => by
    have := rright_calls x XL XC xl xc W (O7.out.rd.ext e) OX.out
    rwa [HRX.out] at this
  have H2 : Hid (∀ W, Ext w7 W → Calls Tryd.prog 16 #[(.agg #[.string x.ten, .int .u64 x.cap, .int .u64 x.used, .int .u64 x.bits, .int .u64 x.per, .slice XL x.ls.length xl, .slice XC x.cl.length xc])] W (RetV W (.int .u64 (useN x)))) := fun W e => ruse_calls x XL XC xl xc W (O7.out.rd.ext e) OX.out
  have H3 : Hid (∀ W, Ext w7 W → Calls Tryd.prog 16 #[(.agg #[.string a.ten, .int .u64 a.cap, .int .u64 a.used, .int .u64 a.bits, .int .u64 a.per, .slice AL a.ls.length cL, .slice AC a.cl.length cC])] W (RetV W (.int .u64 (useN a)))) := fun W e => ruse_calls a AL AC cL cC W (HA.out.rd.ext (E7.out.trans e)) OA.out.1
  have H4 : Hid (r.kind = 5 → ∀ W, Ext w7 W → Calls Tryd.prog 17 #[(.agg #[.string x.ten, .int .u64 x.cap, .int .u64 x.used, .int .u64 x.bits, .int .u64 x.per, .slice XL x.ls.length xl, .slice XC x.cl.length xc])] W (RetV W (.int .u64 (totF a.used a.cl)))) := fun hk W e => by
    have := rtotal_calls x XL XC xl xc W (O7.out.rd.ext e) OX.out
    rwa [(HS5.out hk).1] at this
  have H5 : Hid (∀ W, Ext w7 W → Calls Tryd.prog 17 #[(.agg #[.string a.ten, .int .u64 a.cap, .int .u64 a.used, .int .u64 a.bits, .int .u64 a.per, .slice AL a.ls.length cL, .slice AC a.cl.length cC])] W (RetV W (.int .u64 (totF a.used a.cl)))) := fun W e => rtotal_calls a AL AC cL cC W (HA.out.rd.ext (E7.out.trans e)) OA.out.1
  have KS : Hid (∀ w', Ext w7 w' → Ext w7 w' ∧ (w'.cell? ⟨g5, 0, none⟩ = some (.string x.ten) ∧ w'.cell? ⟨g5, 1, none⟩ = some (.int .u64 x.cap) ∧ w'.cell? ⟨g5, 2, none⟩ = some (.int .u64 x.used) ∧ w'.cell? ⟨g5, 3, none⟩ = some (.int .u64 x.bits) ∧ w'.cell? ⟨g5, 4, none⟩ = some (.int .u64 x.per) ∧ w'.cell? ⟨g5, 5, none⟩ = some (.slice XL x.ls.length xl) ∧ w'.cell? ⟨g5, 6, none⟩ = some (.slice XC x.cl.length xc)) ∧ (w'.cell? ⟨g1, 0, none⟩ = some (.string a.ten) ∧ w'.cell? ⟨g1, 1, none⟩ = some (.int .u64 a.cap) ∧ w'.cell? ⟨g1, 2, none⟩ = some (.int .u64 a.used) ∧ w'.cell? ⟨g1, 3, none⟩ = some (.int .u64 a.bits) ∧ w'.cell? ⟨g1, 4, none⟩ = some (.int .u64 a.per) ∧ w'.cell? ⟨g1, 5, none⟩ = some (.slice AL a.ls.length cL) ∧ w'.cell? ⟨g1, 6, none⟩ = some (.slice AC a.cl.length cC)) ∧ w'.cell? ⟨g3, 1, none⟩ = some (.int .i64 r.kind)) := fun w' e => ⟨e, ac_cells (Z7.out.ext e), ac_cells (X7.out.ext e), (Y7.out.ext e).cell 1⟩
  have HU0 : Hid (r.kind = 5 → x.used = 0) := fun hk => (HS5.out hk).2
  generalize useN x = UX at *
  generalize useN a = UA at *
  generalize totF a.used a.cl = TA at *
  have HQ3 : Hid (r.kind = 3 → decide (x.cap < UX) = false) := fun h => decide_eq_false (by have := HS3.out h; omega)
  have HQ4 : Hid (r.kind = 4 → decide (UA < UX) = false) := fun h => decide_eq_false (by have := HS4.out h; omega)
  have HQ5 : Hid (r.kind = 5 → ((x.used : Int) == 0) = true) := fun h => by show _ = _; rw [HU0.out h]; rfl
  have HKK := Lib.hid HK.out
  clear HS3 HS4 HS5 HU0 HRX HK
  have hk := HKD.out
  have q3 := HQ5.out hk
  have HAW7 : Hid (∀ W, Ext w7 W → Calls Tryd.prog 14 #[] W (RetV W (.bool true))) := fun W e => HAW.out W (E7.out.trans e)
  clear HQ3 HQ4 HQ5 HKK
  rw [hk] at KS
  clear hk
  go_wp2_with fail
  refine wp_region_quietE w7 (Ext.refl _) (by kernel_rfl) (by kernel_rfl) ?_
  repeat (first | (apply wpq_skip; (focus rfl); (try simp only [Act.put, List.setIfInBounds_toArray, List.set_cons_zero, List.set_cons_succ])) | ((with_reducible show QGoal _ _ _ _ ({ dst := _, op := Op.call { callee := Callee.value (Operand.func 13), args := _, argTypes := _ }, type := _, pos := _, after := _, guard := _ } :: _) _); apply wpq_call (hc := H1.out); (focus rfl); (focus (intro W hW; go_simp; (first | done | with_reducible rfl))); (try simp only [Act.put, List.setIfInBounds_toArray, List.set_cons_zero, List.set_cons_succ])) | ((with_reducible show QGoal _ _ _ _ ({ dst := _, op := Op.call { callee := Callee.value (Operand.func 16), args := _, argTypes := _ }, type := _, pos := _, after := _, guard := _ } :: _) _); apply wpq_call (hc := H2.out); (focus rfl); (focus (intro W hW; go_simp; (first | done | with_reducible rfl))); (try simp only [Act.put, List.setIfInBounds_toArray, List.set_cons_zero, List.set_cons_succ])) | ((with_reducible show QGoal _ _ _ _ ({ dst := _, op := Op.call { callee := Callee.value (Operand.func 16), args := _, argTypes := _ }, type := _, pos := _, after := _, guard := _ } :: _) _); apply wpq_call (hc := H3.out); (focus rfl); (focus (intro W hW; go_simp; (first | done | with_reducible rfl))); (try simp only [Act.put, List.setIfInBounds_toArray, List.set_cons_zero, List.set_cons_succ])) | (apply wpq_take; (focus rfl); (focus (intro W hW; obtain ⟨_, ⟨a0, a1, a2, a3, a4, a5, a6⟩, ⟨b0, b1, b2, b3, b4, b5, b6⟩, r1⟩ := KS.out W hW; go_simp; (first | done | with_reducible rfl))); (try simp only [Act.put, List.setIfInBounds_toArray, List.set_cons_zero, List.set_cons_succ])))
  refine wpq_nil ?_
  intro w9 S9
  go_wp2_with fail
  refine wp_region_quietE w7 S9 (by kernel_rfl) (by kernel_rfl) ?_
  repeat (first | (apply wpq_skip; (focus rfl); (try simp only [Act.put, List.setIfInBounds_toArray, List.set_cons_zero, List.set_cons_succ])) | ((with_reducible show QGoal _ _ _ _ ({ dst := _, op := Op.call { callee := Callee.value (Operand.func 17), args := _, argTypes := _ }, type := _, pos := _, after := _, guard := _ } :: _) _); apply wpq_call (hc := (H4.out HKD.out)); (focus rfl); (focus (intro W hW; go_simp; (first | done | with_reducible rfl))); (try simp only [Act.put, List.setIfInBounds_toArray, List.set_cons_zero, List.set_cons_succ])) | ((with_reducible show QGoal _ _ _ _ ({ dst := _, op := Op.call { callee := Callee.value (Operand.func 17), args := _, argTypes := _ }, type := _, pos := _, after := _, guard := _ } :: _) _); apply wpq_call (hc := H5.out); (focus rfl); (focus (intro W hW; go_simp; (first | done | with_reducible rfl))); (try simp only [Act.put, List.setIfInBounds_toArray, List.set_cons_zero, List.set_cons_succ])) | ((with_reducible show QGoal _ _ _ _ ({ dst := _, op := Op.call { callee := Callee.value (Operand.func 14), args := _, argTypes := _ }, type := _, pos := _, after := _, guard := _ } :: _) _); apply wpq_call (hc := HAW7.out); (focus rfl); (focus (intro W hW; go_simp; (first | done | with_reducible rfl))); (try simp only [Act.put, List.setIfInBounds_toArray, List.set_cons_zero, List.set_cons_succ])) | (apply wpq_take; (focus rfl); (focus (intro W hW; obtain ⟨_, ⟨a0, a1, a2, a3, a4, a5, a6⟩, ⟨b0, b1, b2, b3, b4, b5, b6⟩, r1⟩ := KS.out W hW; go_simp; (first | done | with_reducible rfl))); (try simp only [Act.put, List.setIfInBounds_toArray, List.set_cons_zero, List.set_cons_succ])))
  refine wpq_nil ?_
  intro w13 S13
  go_wp2_with fail
  go_ret
  exact ⟨rfl, E7.out.trans S13⟩

set_option maxHeartbeats 16000000 in
theorem acctStays_walk (a : Ac) (r : Rc) (AL AC : Option Addr) (cL cC : Nat) (w : World) (ha : AcIn w a AL cL AC cC) (hr : r.ok) (ht : r.ten.size ≤ 9223372036854775807) (hL : Laid w) :
    Calls Tryd.prog 3 #[acA a AL cL AC cC, rcA r] w (RetV w (.bool true)) := by
  by_cases hall : largeB a = false ∧ ¬ 100 < r.ten.size ∧ rightB a = true ∧ chkA a r = 0
  · obtain ⟨h1, h2, h3, h4⟩ := hall
    rcases chk_known h4 with hk | hk | hk | hk | hk
    · exact acctStays_1 a r AL AC cL cC w ha hr ht hL h1 h2 h3 h4 hk
    · exact acctStays_2 a r AL AC cL cC w ha hr ht hL h1 h2 h3 h4 hk
    · exact acctStays_3 a r AL AC cL cC w ha hr ht hL h1 h2 h3 h4 hk
    · exact acctStays_4 a r AL AC cL cC w ha hr ht hL h1 h2 h3 h4 hk
    · exact acctStays_5 a r AL AC cL cC w ha hr ht hL h1 h2 h3 h4 hk
  have HN : Hid (largeB a = false → ¬ 100 < r.ten.size → rightB a = true → chkA a r = 0 → False) := fun h1 h2 h3 h4 => hall ⟨h1, h2, h3, h4⟩
  clear hall
  have HA := Lib.hid ha
  have HR := Lib.hid hr
  have HL := Lib.hid hL
  have HLA : Hid (∀ W, Ext w W → Calls Tryd.prog 12 #[(.agg #[.string a.ten, .int .u64 a.cap, .int .u64 a.used, .int .u64 a.bits, .int .u64 a.per, .slice AL a.ls.length cL, .slice AC a.cl.length cC])] W (RetV W (.bool (largeB a)))) := fun W e => rlarge_calls a AL AC cL cC W (HA.out.rd.ext e) (by have := HA.out.ll; have := HA.out.ml; omega) (by have := HA.out.lc; have := HA.out.mc; omega) HA.out.ten HA.out.cok
  have HAW : Hid (∀ W, Ext w W → Calls Tryd.prog 14 #[] W (RetV W (.bool true))) := fun W e => awake15 W (HL.out.ext e)
  have HOA : Hid (largeB a = false → a.ok ∧ a.ls.length ≤ 40 ∧ a.cl.length ≤ 40 ∧ a.ten.size ≤ 100) := fun h => largeB_ok h HA.out
  clear ha hr hL
  unfold acA rcA
  go_enter Tryd.func3, Tryd.ntmps3
  go_wp2_with (first
    | ((with_reducible show wpList _ _ _ ({ dst := some 2, op := Op.box 26 _, type := _, pos := _, after := _, guard := _ } :: _) _ _); refine bxA _ rfl 26 _ rfl _ rfl ?_; intro g1 w1 hg hs1 k1 e1; have X0 := Lib.hid k1; have E0 := Lib.hid e1; clear hg hs1 k1 e1)
    | ((with_reducible show wpList _ _ _ ({ dst := some 3, op := Op.box 28 _, type := _, pos := _, after := _, guard := _ } :: _) _ _); refine bxA _ rfl 28 _ rfl _ rfl ?_; intro g3 w2 hg hs1 k1 e1; have X1 := Lib.hid (X0.out.ext e1); have X2 := Lib.hid k1; have E1 := Lib.hid (E0.out.trans e1); obtain ⟨a0, a1, a2, a3, a4, a5, a6⟩ := ac_cells X1.out; obtain ⟨r0, r1, r2, r3, r4, r5⟩ := rc_cells X2.out; clear hg hs1 k1 e1 X0 E0))
  refine (HLA.out _ E1.out).mono ?_
  rintro e w3 ⟨rfl, e3⟩
  have X3 := Lib.hid (X1.out.ext e3)
  have Y3 := Lib.hid (X2.out.ext e3)
  have E3 := Lib.hid (E1.out.trans e3)
  clear e3 a0 a1 a2 a3 a4 a5 a6 r0 r1 r2 r3 r4 r5 X1 X2 E1 HLA
  cases hla : largeB a with
  | true =>
    go_wp2_with fail
    refine (HAW.out _ E3.out).mono ?_
    rintro e w4 ⟨rfl, e4⟩
    go_wp2_with fail
    go_ret
    exact ⟨rfl, E3.out.trans e4⟩
  | false =>
    have OA := Lib.hid (HOA.out hla)
    have HN := Lib.hid (HN.out hla)
    clear hla HOA
    obtain ⟨a0, a1, a2, a3, a4, a5, a6⟩ := ac_cells X3.out
    obtain ⟨r0, r1, r2, r3, r4, r5⟩ := rc_cells Y3.out
    by_cases hbig : 100 < r.ten.size
    · go_wp2_with fail
      refine (HAW.out _ E3.out).mono ?_
      rintro e w4 ⟨rfl, e4⟩
      go_wp2_with fail
      go_ret
      exact ⟨rfl, E3.out.trans e4⟩
    · go_wp2_with fail
      have HN := Lib.hid (HN.out hbig)
      refine (rright_calls a AL AC cL cC _ (HA.out.rd.ext E3.out) OA.out.1).mono ?_
      rintro e w4 ⟨rfl, e4⟩
      have X4 := Lib.hid (X3.out.ext e4)
      have Y4 := Lib.hid (Y3.out.ext e4)
      have E4 := Lib.hid (E3.out.trans e4)
      clear e4 a0 a1 a2 a3 a4 a5 a6 r0 r1 r2 r3 r4 r5 X3 Y3 E3
      cases hra : rightB a with
      | false =>
        go_wp2_with fail
        refine (HAW.out _ E4.out).mono ?_
        rintro e w5 ⟨rfl, e5⟩
        go_wp2_with fail
        go_ret
        exact ⟨rfl, E4.out.trans e5⟩
      | true =>
        have HRA := Lib.hid hra
        have HAP := Lib.hid (aapply_calls a r AL AC cL cC w4 (HA.out.rd.ext E4.out) OA.out.1 HR.out HA.out.nl HA.out.nc (HL.out.ext E4.out))
        have HN := Lib.hid (HN.out hra)
        clear hra
        obtain ⟨a0, a1, a2, a3, a4, a5, a6⟩ := ac_cells X4.out
        obtain ⟨r0, r1, r2, r3, r4, r5⟩ := rc_cells Y4.out
        by_cases hc : chkA a r = 0
        · exact (HN.out hc).elim
        · rw [if_neg hc] at HAP
          have hc2 : (chkA a r != 0) = true := by simpa using hc
          clear hc
          generalize chkA a r = E at *
          go_wp2_with fail
          refine HAP.out.mono ?_
          rintro e w5 ⟨XL, xl, XC, xc, rfl, o5, e5⟩
          have E5 := Lib.hid (E4.out.trans e5)
          clear o5 e5 a0 a1 a2 a3 a4 a5 a6 r0 r1 r2 r3 r4 r5 HAP
          go_wp2_with (first
            | ((with_reducible show wpList _ _ _ ({ dst := some 5, op := Op.alloc 26, type := _, pos := _, after := _, guard := _ } :: _) _ _); refine alA _ rfl 26 rfl _ _ zero_acct ?_; intro g5 w6 hg hs1 k1 e1; have Z6 := Lib.hid k1; have E6 := Lib.hid (E5.out.trans e1); have G6 := Lib.hid (show w.heap.size ≤ g5 from by have := E5.out.size; omega); clear hg hs1 k1 e1)
            | ((with_reducible show wpList _ _ _ ({ dst := none, op := Op.store 26 (Operand.tmp 5) _, type := _, pos := _, after := _, guard := _ } :: _) _ _); refine stA _ rfl 26 26 _ _ rfl g5 _ (acV Ac0 XL xl XC xc) rfl rfl Z6.out size_acct rfl (ac_one _ _ _ _ _) ?_; intro w7 hs k7 g7; have E7 := Lib.hid (E6.out.grown g7 (fun q hq => by injection hq with hq; have := G6.out; omega)); clear hs k7 g7))
          refine (HAW.out _ E7.out).mono ?_
          rintro e w8 ⟨rfl, e8⟩
          go_wp2_with fail
          go_ret
          exact ⟨rfl, E7.out.trans e8⟩

end Go.Proofs.YtkbjnlbbfapgdaaDoor
