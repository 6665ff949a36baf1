/- acct.Check. -/
import Derived.Test.YtkbjnlbbfapgdaaDoorAcctI
set_option maxRecDepth 100000
set_option linter.unusedVariables false
set_option linter.unusedSimpArgs false
namespace Go.Proofs.YtkbjnlbbfapgdaaDoor
open Go.RowKit

def rcV (r : Rc) : Array Value := #[.int .u64 r.seq, .int .i64 r.kind, .string r.ten, .int .u64 r.lease, .int .u64 r.n, .int .u64 r.bits]
def rcA (r : Rc) : Value := .agg (rcV r)
theorem rc_cells {w : World} {g : Nat} {t : TypeId} {r : Rc} (h : Arr w g t (rcV r)) : w.cell? ⟨g, 0, none⟩ = some (.int .u64 r.seq) ∧ w.cell? ⟨g, 1, none⟩ = some (.int .i64 r.kind) ∧ w.cell? ⟨g, 2, none⟩ = some (.string r.ten) ∧ w.cell? ⟨g, 3, none⟩ = some (.int .u64 r.lease) ∧ w.cell? ⟨g, 4, none⟩ = some (.int .u64 r.n) ∧ w.cell? ⟨g, 5, none⟩ = some (.int .u64 r.bits) := ⟨h.cell 0, h.cell 1, h.cell 2, h.cell 3, h.cell 4, h.cell 5⟩
theorem find_at {ls : List Lz} {p : Lz → Bool} (h : ls.any p = true) : ∃ (k : Nat) (hk : k < ls.length), idxZ ls p = (k : Int) ∧ ls.find? p = some ls[k] ∧ ls.findIdx p = k := by
  have hk : ls.findIdx p < ls.length := by
    rw [List.findIdx_lt_length]
    obtain ⟨x, hx, hp⟩ := List.any_eq_true.1 h
    exact ⟨x, hx, hp⟩
  refine ⟨ls.findIdx p, hk, by unfold idxZ; rw [if_pos h], ?_, rfl⟩
  clear h
  induction ls with
  | nil => simp at hk
  | cons x ls ih =>
    rw [List.find?_cons]
    cases hp : p x with
    | true => simp [List.findIdx_cons, hp]
    | false =>
      have e : (x :: ls).findIdx p = ls.findIdx p + 1 := by rw [List.findIdx_cons, hp]; rfl
      simp only [e, List.getElem_cons_succ]
      exact ih (by rw [e] at hk; simpa using hk)
theorem find_no {ls : List Lz} {p : Lz → Bool} (h : ls.any p = false) : idxZ ls p = -1 ∧ ls.find? p = none := by
  refine ⟨by unfold idxZ; rw [h]; rfl, ?_⟩
  rw [List.find?_eq_none]
  intro x hx hp
  rw [List.any_eq_false] at h
  exact h x hx hp
theorem chk4_none {a : Ac} {le n : Nat} (h : a.ls.find? (fun l => decide (l.id = le)) = none) : chkS a 4 le n = 8 := by
  unfold chkS; rw [if_neg (by decide), if_pos rfl, h]
theorem chk4_some {a : Ac} {le n : Nat} {l : Lz} (h : a.ls.find? (fun l => decide (l.id = le)) = some l) : chkS a 4 le n = if l.sz < n then 6 else 0 := by
  unfold chkS; rw [if_neg (by decide), if_pos rfl, h]
theorem chk5 {a : Ac} {le n : Nat} : chkS a 5 le n = if 0 < a.ls.length then 12 else if 65536 ≤ a.per then 3 else 0 := by
  unfold chkS; rw [if_neg (by decide), if_neg (by decide), if_pos rfl]
theorem chkO {a : Ac} {k : Int} {le n : Nat} (h3 : k ≠ 3) (h4 : k ≠ 4) (h5 : k ≠ 5) : chkS a k le n = 0 := by
  unfold chkS; rw [if_neg h3, if_neg h4, if_neg h5]
theorem numbered_any (id : Nat) (w : World) : Calls Tryd.prog 56 #[.int .u64 id] w fun e w' => ∃ B, e = .returned (.func (.func 99) #[] #[.pointer (some ⟨B, 0, none⟩)]) ∧ w'.cell? ⟨B, 0, none⟩ = some (.int .u64 id) ∧ Ext w w' :=
  (numbered_calls id w).mono fun _ _ ⟨he, hw⟩ => ⟨_, he, by rw [hw]; exact (Arr.new w _ _).cell 0, by rw [hw]; exact (Ext.refl w).alloc _⟩

set_option maxHeartbeats 8000000 in
theorem acheck_calls (a : Ac) (r : Rc) (AL AC : Option Addr) (cL cC : Nat) (w : World) (ha : RdA w a AL AC) (hok : a.ok) (hr : r.ok) :
    Calls Tryd.prog 53 #[acA a AL cL AC cC, rcA r] w (RetV w (.int .i64 (chkA a r))) := by
  have HA := Lib.hid ha
  have OK := Lib.hid hok
  have RK := Lib.hid hr
  have hb := hr.2.2.2.1
  have l1 := hok.2.2.2.2.2.2.2.1
  have HC : Hid (∀ W, Calls Tryd.prog 87 #[.agg #[.int .u64 r.seq, .int .i64 r.kind, .string r.ten, .int .u64 r.lease, .int .u64 r.n, .int .u64 r.bits]] W (RetV W (.int .i64 (recE r.seq r.kind r.ten r.lease r.n r.bits)))) := fun W => check_calls r.seq r.kind r.ten r.lease r.n r.bits W hb
  have HE : Hid (chkA a r = if recE r.seq r.kind r.ten r.lease r.n r.bits ≠ 0 then recE r.seq r.kind r.ten r.lease r.n r.bits else if r.ten ≠ a.ten then 7 else chkS a r.kind r.lease r.n) := by show _ = _; rfl
  clear ha hok hr
  generalize recE r.seq r.kind r.ten r.lease r.n r.bits = E at *
  unfold acA rcA
  go_enter Tryd.func53, Tryd.ntmps53
  go_wp2_with (first
    | ((with_reducible show wpList _ _ _ ({ dst := some 2, op := Op.box 26 _, type := _, pos := _, after := _, guard := _ } :: _) _ _); refine bxA _ rfl 26 _ rfl _ rfl ?_; intro g1 w1 hg hs1 k1 e1; have X0 := Lib.hid k1; have E0 := Lib.hid e1; clear hg hs1 k1 e1)
    | ((with_reducible show wpList _ _ _ ({ dst := some 3, op := Op.box 28 _, type := _, pos := _, after := _, guard := _ } :: _) _ _); refine bxA _ rfl 28 _ rfl _ rfl ?_; intro g3 w3 hg hs1 k1 e1; have X3 := Lib.hid k1; have X1 := Lib.hid (X0.out.ext e1); have E1 := Lib.hid (E0.out.trans e1); obtain ⟨r0, r1, r2, r3, r4, r5⟩ := rc_cells k1; clear hg hs1 k1 e1 X0 E0))
  refine (HC.out _).mono ?_
  rintro e w4 ⟨rfl, e4⟩
  have E4 := Lib.hid e4
  clear e4 r0 r1 r2 r3 r4 r5
  by_cases h0 : E = 0
  · subst h0
    obtain ⟨a0, a1, a2, a3, a4, a5, a6⟩ := ac_cells (X1.out.ext E4.out); obtain ⟨r0, r1, r2, r3, r4, r5⟩ := rc_cells (X3.out.ext E4.out)
    by_cases ht : r.ten = a.ten
    · have q5 : (r.ten.toList == a.ten.toList) = true := by rw [str_beq]; exact decide_eq_true ht
      have HE2 : Hid (chkA a r = chkS a r.kind r.lease r.n) := by
        show _ = _
        rw [HE.out, if_neg (by simp), if_neg (by simpa using ht)]
      clear ht HE HC
      by_cases k3 : r.kind = 3
      · rw [k3] at HE2 r1
        have HE3 : Hid (chkA a r = if a.ls.any (fun l => decide (r.lease ≤ l.id)) = true then 9 else if roomN a < r.n then 11 else 0) := by
          show _ = _
          rw [HE2.out, chkS, if_pos rfl]
        clear HE2
        have HFI : Hid (∀ W, Ext w W → W.cell? ⟨g3, 3, none⟩ = some (.int .u64 r.lease) → Calls Tryd.prog 55 #[.slice AL a.ls.length cL, .func (.func 97) #[] #[.pointer (some ⟨g3, 0, none⟩)]] W (RetV W (.int .i64 (idxZ a.ls (fun l => decide (r.lease ≤ l.id)))))) :=
          fun W e h => afind_calls 97 _ _ eg_chk AL cL a.ls W (HA.out.1.ext e) OK.out.2.2.2.2.2.1 l1 (pred_chk r.lease g3 W h)
        have HRO : Hid (∀ W, Ext w W → Calls Tryd.prog 51 #[(.agg #[.string a.ten, .int .u64 a.cap, .int .u64 a.used, .int .u64 a.bits, .int .u64 a.per, .slice AL a.ls.length cL, .slice AC a.cl.length cC])] W (RetV W (.int .u64 (roomN a)))) := fun W e => aroom_calls a AL AC cL cC W (HA.out.ext e) OK.out
        go_wp2_with fail
        refine (HFI.out _ (E1.out.trans E4.out) r3).mono ?_
        rintro e w5 ⟨rfl, e5⟩
        have E5 := Lib.hid (E4.out.trans e5)
        have F5 := Lib.hid (E1.out.trans E5.out)
        clear e5 E4 HFI
        clear a0 a1 a2 a3 a4 a5 a6 r0 r1 r2 r3 r4 r5
        cases hp : a.ls.any (fun l => decide (r.lease ≤ l.id)) with
        | true =>
          obtain ⟨k, hk, hz, _, _⟩ := find_at hp
          rw [hz]
          have HF : Hid (chkA a r = 9) := by show _ = _; rw [HE3.out, if_pos hp]
          clear hp hz
          go_wp2_with fail
          go_ret
          rw [HF.out]
          exact ⟨rfl, F5.out⟩
        | false =>
          rw [(find_no hp).1]
          have HE4 : Hid (chkA a r = if roomN a < r.n then 11 else 0) := by show _ = _; rw [HE3.out, hp]; rfl
          clear hp HE3
          generalize roomN a = R at *
          go_wp2_with fail
          have KS : Hid (∀ w', Ext w5 w' → Ext w5 w' ∧ (w'.cell? ⟨g1, 0, none⟩ = some (.string a.ten) ∧ w'.cell? ⟨g1, 1, none⟩ = some (.int .u64 a.cap) ∧ w'.cell? ⟨g1, 2, none⟩ = some (.int .u64 a.used) ∧ w'.cell? ⟨g1, 3, none⟩ = some (.int .u64 a.bits) ∧ w'.cell? ⟨g1, 4, none⟩ = some (.int .u64 a.per) ∧ w'.cell? ⟨g1, 5, none⟩ = some (.slice AL a.ls.length cL) ∧ w'.cell? ⟨g1, 6, none⟩ = some (.slice AC a.cl.length cC)) ∧ w'.cell? ⟨g3, 4, none⟩ = some (.int .u64 r.n)) := fun w' e => ⟨e, ac_cells (X1.out.ext (E5.out.trans e)), (X3.out.ext (E5.out.trans e)).cell 4⟩
          go_region_held3 (fun w' => Ext w5 w' ∧ (w'.cell? ⟨g1, 0, none⟩ = some (.string a.ten) ∧ w'.cell? ⟨g1, 1, none⟩ = some (.int .u64 a.cap) ∧ w'.cell? ⟨g1, 2, none⟩ = some (.int .u64 a.used) ∧ w'.cell? ⟨g1, 3, none⟩ = some (.int .u64 a.bits) ∧ w'.cell? ⟨g1, 4, none⟩ = some (.int .u64 a.per) ∧ w'.cell? ⟨g1, 5, none⟩ = some (.slice AL a.ls.length cL) ∧ w'.cell? ⟨g1, 6, none⟩ = some (.slice AC a.cl.length cC)) ∧ w'.cell? ⟨g3, 4, none⟩ = some (.int .u64 r.n))
            (first | exact KS.out _ (Ext.refl _).drew | exact KS.out _ (by assumption))
            ((go_at_call 51; refine (HRO.out _ (F5.out.trans (by first | assumption | exact (Ext.refl _).drew))).mono ?_; rintro e w6 ⟨rfl, e6⟩; have S6 : Ext w5 w6 := Ext.trans (by first | assumption | exact (Ext.refl _).drew) e6; clear e6))
          by_cases h : R < r.n
          · have HF : Hid (chkA a r = 11) := by show _ = _; rw [HE4.out, if_pos h]
            go_wp2_with fail
            go_ret
            rw [HF.out]
            exact ⟨rfl, F5.out.trans S6⟩
          · have HF : Hid (chkA a r = 0) := by show _ = _; rw [HE4.out, if_neg h]
            go_wp2_with fail
            go_ret
            rw [HF.out]
            exact ⟨rfl, F5.out.trans S6⟩
      · by_cases k4 : r.kind = 4
        · rw [k4] at HE2 r1
          have HFI : Hid (∀ W B, Ext w W → W.cell? ⟨B, 0, none⟩ = some (.int .u64 r.lease) → Calls Tryd.prog 55 #[.slice AL a.ls.length cL, .func (.func 99) #[] #[.pointer (some ⟨B, 0, none⟩)]] W (RetV W (.int .i64 (idxZ a.ls (fun l => decide (l.id = r.lease)))))) :=
            fun W B e h => afind_calls 99 _ _ eg_num AL cL a.ls W (HA.out.1.ext e) OK.out.2.2.2.2.2.1 l1 (pred_num r.lease B W h)
          clear a0 a1 a2 a3 a4 a5 a6 r0 r1 r2 r3 r4 r5
          obtain ⟨a0, a1, a2, a3, a4, a5, a6⟩ := ac_cells (X1.out.ext E4.out)
          obtain ⟨r0, r1, r2, r3, r4, r5⟩ := rc_cells (X3.out.ext E4.out)
          rw [k4] at r1
          have KS : Hid (∀ w', Ext w4 w' → Ext w4 w' ∧ w'.cell? ⟨g1, 5, none⟩ = some (.slice AL a.ls.length cL) ∧ w'.cell? ⟨g3, 3, none⟩ = some (.int .u64 r.lease)) := fun w' e => ⟨e, (X1.out.ext (E4.out.trans e)).cell 5, (X3.out.ext (E4.out.trans e)).cell 3⟩
          go_wp2_with fail
          clear a0 a1 a2 a3 a4 a5 a6 r0 r1 r2 r3 r4 r5
          go_region_held3 (fun w' => Ext w4 w' ∧ w'.cell? ⟨g1, 5, none⟩ = some (.slice AL a.ls.length cL) ∧ w'.cell? ⟨g3, 3, none⟩ = some (.int .u64 r.lease))
            (first | exact KS.out _ (Ext.refl _).drew | exact KS.out _ (by assumption))
            (first | (go_at_call 56; refine (numbered_any r.lease _).mono ?_; rintro e w5 ⟨B, rfl, hB, e5⟩; have S5 : Ext w4 w5 := Ext.trans (by first | assumption | exact (Ext.refl _).drew) e5; clear e5) | (go_at_call 55; refine (HFI.out _ _ ((E1.out.trans E4.out).trans (by first | assumption | exact (Ext.refl _).drew)) (by assumption)).mono ?_; rintro e w6 ⟨rfl, e6⟩; have S6 : Ext w4 w6 := Ext.trans (by first | assumption | exact (Ext.refl _).drew) e6; clear e6))
          have F6 := Lib.hid ((E1.out.trans E4.out).trans S6)
          obtain ⟨a0, a1, a2, a3, a4, a5, a6⟩ := ac_cells (X1.out.ext (E4.out.trans S6))
          obtain ⟨r0, r1, r2, r3, r4, r5⟩ := rc_cells (X3.out.ext (E4.out.trans S6))
          clear hB S5 S6 KS HFI
          cases hp : a.ls.any (fun l => decide (l.id = r.lease)) with
          | true =>
            obtain ⟨k, hk, hz, hf, _⟩ := find_at hp
            have HE3 : Hid (chkA a r = if a.ls[k].sz < r.n then 6 else 0) := by show _ = _; rw [HE2.out, chk4_some hf]
            rw [hz]
            obtain ⟨ad, rfl, x0, x1⟩ := (HA.out.1.ext F6.out).two hk
            have hk1 : (k : Int) < (a.ls.length : Int) := by omega
            generalize a.ls[k] = x at *
            clear hp hz hf x0 HE2 a0 a1 a2 a3 a4 a6 r0 r2 r3 r5 r1
            by_cases h : x.sz < r.n
            · have HF : Hid (chkA a r = 6) := by show _ = _; rw [HE3.out, if_pos h]
              clear HE3
              go_wp2_with fail
              go_quiet (fail)
              go_wp2_with fail
              go_ret
              rw [HF.out]
              exact ⟨rfl, F6.out.drewN nq⟩
            · have HF : Hid (chkA a r = 0) := by show _ = _; rw [HE3.out, if_neg h]
              clear HE3
              go_wp2_with fail
              go_quiet (fail)
              go_wp2_with fail
              go_ret
              rw [HF.out]
              exact ⟨rfl, F6.out.drewN nq⟩
          | false =>
            have HF : Hid (chkA a r = 8) := by show _ = _; rw [HE2.out, chk4_none (find_no hp).2]
            rw [(find_no hp).1]
            clear hp
            go_wp2_with fail
            go_ret
            rw [HF.out]
            exact ⟨rfl, F6.out⟩
        · by_cases k5 : r.kind = 5
          · rw [k5] at HE2 r1
            have HE3 : Hid (chkA a r = if 0 < a.ls.length then 12 else if 65536 ≤ a.per then 3 else 0) := by show _ = _; rw [HE2.out, chk5]
            clear HE2 k3 k4
            by_cases h : 0 < a.ls.length
            · have HF : Hid (chkA a r = 12) := by show _ = _; rw [HE3.out, if_pos h]
              clear HE3
              go_wp2_with fail
              go_ret
              rw [HF.out]
              exact ⟨rfl, E1.out.trans E4.out⟩
            · have h0 : a.ls.length = 0 := by omega
              rw [h0] at a5
              by_cases h1 : 65536 ≤ a.per
              · have HF : Hid (chkA a r = 3) := by show _ = _; rw [HE3.out, if_neg h, if_pos h1]
                have q1 : decide ((65536 : Int) ≤ (a.per : Int)) = true := by simp; omega
                clear HE3 h h0 h1
                go_wp2_with fail
                go_ret
                rw [HF.out]
                exact ⟨rfl, E1.out.trans E4.out⟩
              · have HF : Hid (chkA a r = 0) := by show _ = _; rw [HE3.out, if_neg h, if_neg h1]
                have q1 : decide ((65536 : Int) ≤ (a.per : Int)) = false := by simp; omega
                clear HE3 h h0 h1
                go_wp2_with fail
                go_ret
                rw [HF.out]
                exact ⟨rfl, E1.out.trans E4.out⟩
          · have HF : Hid (chkA a r = 0) := by show _ = _; rw [HE2.out, chkO k3 k4 k5]
            have q1 : (r.kind == 3) = false := beq_eq_false_iff_ne.2 k3
            have q2 : (r.kind == 4) = false := beq_eq_false_iff_ne.2 k4
            have q3 : (r.kind == 5) = false := beq_eq_false_iff_ne.2 k5
            clear k3 k4 k5
            go_wp2_with fail
            go_ret
            rw [HF.out]
            exact ⟨rfl, E1.out.trans E4.out⟩
    · have q5 : (r.ten.toList == a.ten.toList) = false := by rw [str_beq]; exact decide_eq_false ht
      have HF : Hid (chkA a r = 7) := by
        show _ = _
        rw [HE.out, if_neg (by simp), if_pos ht]
      clear ht HE HC
      go_wp2_with fail
      go_ret
      rw [HF.out]
      exact ⟨rfl, E1.out.trans E4.out⟩
  · have HF : Hid (chkA a r = E) := by show _ = _; rw [HE.out, if_pos h0]
    have q0 : (E != 0) = true := by simpa using h0
    clear h0
    go_wp2_with fail
    go_ret
    rw [HF.out]
    exact ⟨rfl, E1.out.trans E4.out⟩
end Go.Proofs.YtkbjnlbbfapgdaaDoor
