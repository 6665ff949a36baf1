/- The law AcctRight. -/
import Derived.Test.YtkbjnlbbfapgdaaDoorAcctY
import Derived.Test.YtkbjnlbbfapgdaaDoorAcctRR
import Derived.Test.YtkbjnlbbfapgdaaDoorAcctT
import Derived.Test.YtkbjnlbbfapgdaaDoorArgAc
set_option maxRecDepth 100000
set_option linter.unusedVariables false
set_option linter.unusedSimpArgs false
namespace Go.Proofs.YtkbjnlbbfapgdaaDoor
open Go.RowKit

theorem largeB_ok {w : World} {a : Ac} {AL AC : Option Addr} {cL cC : Nat} (h : largeB a = false) (hi : AcIn w a AL cL AC cC) : a.ok ∧ a.ls.length ≤ 40 ∧ a.cl.length ≤ 40 ∧ a.ten.size ≤ 100 := by
  unfold largeB at h
  simp only [Bool.or_eq_false_iff, decide_eq_false_iff_not] at h
  obtain ⟨⟨⟨_, h2⟩, h3⟩, h4⟩ := h
  exact ⟨⟨by omega, hi.cap, hi.used, hi.bits, hi.per, hi.lok, hi.cok, by omega, by omega⟩, by omega, by omega, by omega⟩

def a15 : Ac := ⟨⟨#[97]⟩, 10, 0, 0, 0, [], []⟩
def r15 : Rc := ⟨1, 3, ⟨#[97]⟩, 1, 6, 0⟩
def b15 : Ac := ⟨⟨#[97]⟩, 10, 0, 0, 0, [⟨1, 6⟩], []⟩
theorem a15_ok : a15.ok := ⟨by decide, by decide, by decide, by decide, by decide, (fun l h => by cases h), (fun l h => by cases h), by decide, by decide⟩
theorem b15_ls : ∀ l ∈ b15.ls, l.ok := by
  intro l h
  have : l = ⟨1, 6⟩ := by simpa [b15] using h
  subst this
  exact ⟨by decide, by decide⟩
theorem b15_ok : b15.ok := ⟨by decide, by decide, by decide, by decide, by decide, b15_ls, (fun l h => by cases h), by decide, by decide⟩
theorem chk15 : chkA a15 r15 = 0 := by decide +kernel
theorem app15 : appA a15 r15 = b15 := by decide +kernel
theorem room15 : roomN b15 = 4 := by decide +kernel
theorem out15 : outF b15.ls = 6 := by decide +kernel
theorem apply15 (w : World) (hL : Laid w) : Calls Tryd.prog 15 #[.agg #[.string ⟨#[97]⟩, .int .u64 10, .int .u64 0, .int .u64 0, .int .u64 0, .slice none 0 0, .slice none 0 0], .agg #[.int .u64 1, .int .i64 3, .string ⟨#[97]⟩, .int .u64 1, .int .u64 6, .int .u64 0]] w
    (fun e w' => ∃ AL cL AC cC, e = .returned (.tuple #[.agg (acV b15 AL cL AC cC), .int .i64 0]) ∧ OwnA w' w.heap.size b15 AL cL AC cC ∧ Ext w w') := by
  have h := aapply_calls a15 r15 none none 0 0 w ⟨RdE.nil, RdE.nil⟩ a15_ok ⟨by decide, by decide, by decide, by decide, by decide, by decide⟩ (fun _ => rfl) (fun _ => rfl) hL
  rw [chk15, if_pos rfl, app15] at h
  exact h

set_option maxHeartbeats 4000000 in
theorem awake15 (w : World) (hL : Laid w) : Calls Tryd.prog 14 #[] w (RetV w (.bool true)) := by
  have HL := Lib.hid hL
  clear hL
  go_enter Tryd.func14, Tryd.ntmps14
  go_wp2_with (first
    | ((with_reducible show wpList _ _ _ ({ dst := some 1, op := Op.alloc 26, type := _, pos := _, after := _, guard := _ } :: _) _ _); refine alA _ rfl 26 rfl _ _ zero_acct ?_; intro g1 w1 hg hs1 k1 e1; have X1 := Lib.hid k1; have E1 := Lib.hid e1; have G1 := Lib.hid hg; clear hg hs1 k1 e1)
    | ((with_reducible show wpList _ _ _ ({ dst := none, op := Op.store 26 (Operand.tmp 1) _, type := _, pos := _, after := _, guard := _ } :: _) _ _); refine stA _ rfl 26 26 _ _ rfl g1 _ (acV a15 none 0 none 0) rfl rfl X1.out size_acct rfl (ac_one _ _ _ _ _) ?_; intro w2 hs k2 g2; have X2 := Lib.hid k2; have E2 := Lib.hid (E1.out.grown g2 (fun q hq => by injection hq with hq; have := G1.out; omega)); clear hs k2 g2)
    | ((with_reducible show wpList _ _ _ ({ dst := some 6, op := Op.load 26 _, type := _, pos := _, after := _, guard := _ } :: _) _ _); refine ldA _ rfl 26 26 _ rfl g1 rfl _ _ X2.out Tryd.underlying26 rfl size_acct ?_)
    | (go_at_call 15; refine (apply15 _ (HL.out.ext E2.out)).mono ?_; rintro e w3 ⟨AL, cL, AC, cC, rfl, o3, e3⟩; have O3 := Lib.hid o3; have E3 := Lib.hid (E2.out.trans e3); clear o3 e3)
    | ((with_reducible show wpList _ _ _ ({ dst := some 2, op := Op.alloc 26, type := _, pos := _, after := _, guard := _ } :: _) _ _); refine alA _ rfl 26 rfl _ _ zero_acct ?_; intro g4 w4 hg hs1 k1 e1; have X4 := Lib.hid k1; have E4 := Lib.hid (E3.out.trans e1); have O4 := Lib.hid (O3.out.ext e1); have F4 := Lib.hid (O3.out.off (g := g4) (.inr (Nat.le_of_eq hg))); have G4 := Lib.hid (show w.heap.size ≤ g4 from by have := E3.out.size; omega); clear hg hs1 k1 e1)
    | ((with_reducible show wpList _ _ _ ({ dst := none, op := Op.store 26 (Operand.tmp 2) _, type := _, pos := _, after := _, guard := _ } :: _) _ _); refine stA _ rfl 26 26 _ _ rfl g4 _ (acV b15 AL cL AC cC) rfl rfl X4.out size_acct rfl (ac_one _ _ _ _ _) ?_; intro w5 hs k5 g5; have X5 := Lib.hid k5; have E5 := Lib.hid (E4.out.grown g5 (fun q hq => by injection hq with hq; have := G4.out; omega)); have O5 := Lib.hid (O4.out.keep g5 F4.out.1 F4.out.2); obtain ⟨z0, z1, z2, z3, z4, z5, z6⟩ := ac_cells k5; clear hs k5 g5)
    | (go_at_call 51; refine (aroom_calls b15 AL AC cL cC _ O5.out.rd b15_ok).mono ?_; rw [room15]; rintro e w6 ⟨rfl, e6⟩; have X6 := Lib.hid (X5.out.ext e6); have O6 := Lib.hid (O5.out.ext e6); have E6 := Lib.hid (E5.out.trans e6); clear e6 z0 z1 z2 z3 z4 z5 z6; obtain ⟨z0, z1, z2, z3, z4, z5, z6⟩ := ac_cells X6.out)
    | (go_at_call 52; refine (aout_calls b15 AL AC cL cC _ O6.out.rd b15_ok).mono ?_; rw [out15]; rintro e w7 ⟨rfl, e7⟩; have E7 := Lib.hid (E6.out.trans e7); clear e7))
  go_ret
  exact ⟨rfl, E7.out⟩

set_option maxHeartbeats 8000000 in
theorem acctRight_walk (a b : Ac) (AL AC BL BC : Option Addr) (cL cC dL dC : Nat) (w : World) (ha : AcIn w a AL cL AC cC) (hb : AcIn w b BL dL BC dC) (hL : Laid w) :
    Calls Tryd.prog 4 #[acA a AL cL AC cC, acA b BL dL BC dC] w (RetV w (.bool true)) := by
  have HA := Lib.hid ha
  have HB := Lib.hid hb
  have HL := Lib.hid hL
  have HLA : Hid (∀ W, Ext w W → Calls Tryd.prog 12 #[(.agg #[.string a.ten, .int .u64 a.cap, .int .u64 a.used, .int .u64 a.bits, .int .u64 a.per, .slice AL a.ls.length cL, .slice AC a.cl.length cC])] W (RetV W (.bool (largeB a)))) := fun W e => rlarge_calls a AL AC cL cC W (HA.out.rd.ext e) (by have := HA.out.ll; have := HA.out.ml; omega) (by have := HA.out.lc; have := HA.out.mc; omega) HA.out.ten HA.out.cok
  have HLB : Hid (∀ W, Ext w W → Calls Tryd.prog 12 #[(.agg #[.string b.ten, .int .u64 b.cap, .int .u64 b.used, .int .u64 b.bits, .int .u64 b.per, .slice BL b.ls.length dL, .slice BC b.cl.length dC])] W (RetV W (.bool (largeB b)))) := fun W e => rlarge_calls b BL BC dL dC W (HB.out.rd.ext e) (by have := HB.out.ll; have := HB.out.ml; omega) (by have := HB.out.lc; have := HB.out.mc; omega) HB.out.ten HB.out.cok
  have HAW : Hid (∀ W, Ext w W → Calls Tryd.prog 14 #[] W (RetV W (.bool true))) := fun W e => awake15 W (HL.out.ext e)
  have HOA : Hid (largeB a = false → a.ok) := fun h => (largeB_ok h HA.out).1
  have HOB : Hid (largeB b = false → b.ok) := fun h => (largeB_ok h HB.out).1
  clear ha hb hL
  unfold acA
  go_enter Tryd.func4, Tryd.ntmps4
  go_wp2_with (first
    | ((with_reducible show wpList _ _ _ ({ dst := some 2, op := Op.box 26 _, type := _, pos := _, after := _, guard := _ } :: _) _ _); refine bxA _ rfl 26 _ rfl _ rfl ?_; intro g1 w1 hg hs1 k1 e1; have X0 := Lib.hid k1; have E0 := Lib.hid e1; clear hg hs1 k1 e1)
    | ((with_reducible show wpList _ _ _ ({ dst := some 3, op := Op.box 26 _, type := _, pos := _, after := _, guard := _ } :: _) _ _); refine bxA _ rfl 26 _ rfl _ rfl ?_; intro g2 w2 hg hs1 k1 e1; have X1 := Lib.hid (X0.out.ext e1); have X2 := Lib.hid k1; have E1 := Lib.hid (E0.out.trans e1); obtain ⟨a0, a1, a2, a3, a4, a5, a6⟩ := ac_cells X1.out; obtain ⟨b0, b1, b2, b3, b4, b5, b6⟩ := ac_cells X2.out; clear hg hs1 k1 e1 X0 E0))
  refine (HLA.out _ E1.out).mono ?_
  rintro e w3 ⟨rfl, e3⟩
  have X3 := Lib.hid (X1.out.ext e3)
  have Y3 := Lib.hid (X2.out.ext e3)
  have E3 := Lib.hid (E1.out.trans e3)
  clear e3 a0 a1 a2 a3 a4 a5 a6 b0 b1 b2 b3 b4 b5 b6 X1 X2 E1
  cases hla : largeB a with
  | true =>
    go_wp2_with fail
    refine (HAW.out _ E3.out).mono ?_
    rintro e w4 ⟨rfl, e4⟩
    go_wp2_with fail
    go_ret
    exact ⟨rfl, E3.out.trans e4⟩
  | false =>
    have OA := Lib.hid (HOA.out hla)
    clear hla HOA
    obtain ⟨b0, b1, b2, b3, b4, b5, b6⟩ := ac_cells Y3.out
    go_wp2_with fail
    refine (HLB.out _ E3.out).mono ?_
    rintro e w4 ⟨rfl, e4⟩
    have X4 := Lib.hid (X3.out.ext e4)
    have Y4 := Lib.hid (Y3.out.ext e4)
    have E4 := Lib.hid (E3.out.trans e4)
    clear e4 b0 b1 b2 b3 b4 b5 b6 X3 Y3 E3
    cases hlb : largeB b with
    | true =>
      go_wp2_with fail
      refine (HAW.out _ E4.out).mono ?_
      rintro e w5 ⟨rfl, e5⟩
      go_wp2_with fail
      go_ret
      exact ⟨rfl, E4.out.trans e5⟩
    | false =>
      have OB := Lib.hid (HOB.out hlb)
      clear hlb HOB HLA HLB
      have la := OA.out.2.2.2.2.2.2.2.1
      have lc := OA.out.2.2.2.2.2.2.2.2
      have lb := OB.out.2.2.2.2.2.2.2.1
      have ld := OB.out.2.2.2.2.2.2.2.2
      have H1 : Hid (∀ W, Ext w4 W → Calls Tryd.prog 18 #[(.agg #[.string a.ten, .int .u64 a.cap, .int .u64 a.used, .int .u64 a.bits, .int .u64 a.per, .slice AL a.ls.length cL, .slice AC a.cl.length cC])] W (RetV W (.bool (rightB a)))) := fun W e => aright_calls a AL AC cL cC W (HA.out.rd.ext (E4.out.trans e)) OA.out (HL.out.ext (E4.out.trans e))
      have H2 : Hid (∀ W, Ext w4 W → Calls Tryd.prog 13 #[(.agg #[.string a.ten, .int .u64 a.cap, .int .u64 a.used, .int .u64 a.bits, .int .u64 a.per, .slice AL a.ls.length cL, .slice AC a.cl.length cC])] W (RetV W (.bool (rightB a)))) := fun W e => rright_calls a AL AC cL cC W (HA.out.rd.ext (E4.out.trans e)) OA.out
      have H3 : Hid (∀ W, Ext w4 W → Calls Tryd.prog 19 #[(.agg #[.string a.ten, .int .u64 a.cap, .int .u64 a.used, .int .u64 a.bits, .int .u64 a.per, .slice AL a.ls.length cL, .slice AC a.cl.length cC]), (.agg #[.string b.ten, .int .u64 b.cap, .int .u64 b.used, .int .u64 b.bits, .int .u64 b.per, .slice BL b.ls.length dL, .slice BC b.cl.length dC])] W (RetV W (.bool (decide (a = b))))) := fun W e => asame_calls a b AL AC BL BC cL cC dL dC W (HA.out.rd.ext (E4.out.trans e)) (HB.out.rd.ext (E4.out.trans e)) la lc lb ld
      have H4 : Hid (∀ W, Ext w4 W → Calls Tryd.prog 20 #[(.agg #[.string a.ten, .int .u64 a.cap, .int .u64 a.used, .int .u64 a.bits, .int .u64 a.per, .slice AL a.ls.length cL, .slice AC a.cl.length cC]), (.agg #[.string b.ten, .int .u64 b.cap, .int .u64 b.used, .int .u64 b.bits, .int .u64 b.per, .slice BL b.ls.length dL, .slice BC b.cl.length dC])] W (RetV W (.bool (decide (a = b))))) := fun W e => rasame_calls a b AL AC BL BC cL cC dL dC W (HA.out.rd.ext (E4.out.trans e)) (HB.out.rd.ext (E4.out.trans e)) la lc lb ld
      have H5 : Hid (∀ W, Ext w4 W → Calls Tryd.prog 21 #[(.agg #[.string a.ten, .int .u64 a.cap, .int .u64 a.used, .int .u64 a.bits, .int .u64 a.per, .slice AL a.ls.length cL, .slice AC a.cl.length cC])] W (fun e w' => ∃ CL c5 CC c6, e = .returned ((.agg #[.string a.ten, .int .u64 a.cap, .int .u64 a.used, .int .u64 a.bits, .int .u64 a.per, .slice CL a.ls.length c5, .slice CC a.cl.length c6])) ∧ RdA w' a CL CC ∧ Ext W w')) := fun W e => (aclone_calls a AL AC cL cC W (HA.out.rd.ext (E4.out.trans e)) HA.out.nl HA.out.nc la lc).mono fun _ _ ⟨CL, c5, CC, c6, h1, h2, h3⟩ => ⟨CL, c5, CC, c6, h1, h2.rd, h3⟩
      have H6 : Hid (∀ W CL c5 CC c6, Ext w4 W → RdA W a CL CC → Calls Tryd.prog 19 #[(.agg #[.string a.ten, .int .u64 a.cap, .int .u64 a.used, .int .u64 a.bits, .int .u64 a.per, .slice AL a.ls.length cL, .slice AC a.cl.length cC]), (.agg #[.string a.ten, .int .u64 a.cap, .int .u64 a.used, .int .u64 a.bits, .int .u64 a.per, .slice CL a.ls.length c5, .slice CC a.cl.length c6])] W (RetV W (.bool true))) := fun W CL c5 CC c6 e h => by
        have := asame_calls a a AL AC CL CC cL cC c5 c6 W (HA.out.rd.ext (E4.out.trans e)) h la lc la lc
        rwa [decide_eq_true rfl] at this
      have H7 : Hid (∀ W CL c5 CC c6, Ext w4 W → RdA W a CL CC → Calls Tryd.prog 20 #[(.agg #[.string a.ten, .int .u64 a.cap, .int .u64 a.used, .int .u64 a.bits, .int .u64 a.per, .slice CL a.ls.length c5, .slice CC a.cl.length c6]), (.agg #[.string a.ten, .int .u64 a.cap, .int .u64 a.used, .int .u64 a.bits, .int .u64 a.per, .slice AL a.ls.length cL, .slice AC a.cl.length cC])] W (RetV W (.bool true))) := fun W CL c5 CC c6 e h => by
        have := rasame_calls a a CL CC AL AC c5 c6 cL cC W h (HA.out.rd.ext (E4.out.trans e)) la lc la lc
        rwa [decide_eq_true rfl] at this
      have H8 : Hid (∀ W, Ext w4 W → Calls Tryd.prog 14 #[] W (RetV W (.bool true))) := fun W e => HAW.out W (E4.out.trans e)
      clear HAW la lc lb ld
      generalize rightB a = ra at *
      generalize decide (a = b) = sab at *
      go_wp2_with fail
      have KS : Hid (∀ w', Ext w4 w' → Ext w4 w' ∧ (w'.cell? ⟨g1, 0, none⟩ = some (.string a.ten) ∧ w'.cell? ⟨g1, 1, none⟩ = some (.int .u64 a.cap) ∧ w'.cell? ⟨g1, 2, none⟩ = some (.int .u64 a.used) ∧ w'.cell? ⟨g1, 3, none⟩ = some (.int .u64 a.bits) ∧ w'.cell? ⟨g1, 4, none⟩ = some (.int .u64 a.per) ∧ w'.cell? ⟨g1, 5, none⟩ = some (.slice AL a.ls.length cL) ∧ w'.cell? ⟨g1, 6, none⟩ = some (.slice AC a.cl.length cC)) ∧ (w'.cell? ⟨g2, 0, none⟩ = some (.string b.ten) ∧ w'.cell? ⟨g2, 1, none⟩ = some (.int .u64 b.cap) ∧ w'.cell? ⟨g2, 2, none⟩ = some (.int .u64 b.used) ∧ w'.cell? ⟨g2, 3, none⟩ = some (.int .u64 b.bits) ∧ w'.cell? ⟨g2, 4, none⟩ = some (.int .u64 b.per) ∧ w'.cell? ⟨g2, 5, none⟩ = some (.slice BL b.ls.length dL) ∧ w'.cell? ⟨g2, 6, none⟩ = some (.slice BC b.cl.length dC))) := fun w' e => ⟨e, ac_cells (X4.out.ext e), ac_cells (Y4.out.ext e)⟩
      go_region_held3 (fun w' => Ext w4 w' ∧ (w'.cell? ⟨g1, 0, none⟩ = some (.string a.ten) ∧ w'.cell? ⟨g1, 1, none⟩ = some (.int .u64 a.cap) ∧ w'.cell? ⟨g1, 2, none⟩ = some (.int .u64 a.used) ∧ w'.cell? ⟨g1, 3, none⟩ = some (.int .u64 a.bits) ∧ w'.cell? ⟨g1, 4, none⟩ = some (.int .u64 a.per) ∧ w'.cell? ⟨g1, 5, none⟩ = some (.slice AL a.ls.length cL) ∧ w'.cell? ⟨g1, 6, none⟩ = some (.slice AC a.cl.length cC)) ∧ (w'.cell? ⟨g2, 0, none⟩ = some (.string b.ten) ∧ w'.cell? ⟨g2, 1, none⟩ = some (.int .u64 b.cap) ∧ w'.cell? ⟨g2, 2, none⟩ = some (.int .u64 b.used) ∧ w'.cell? ⟨g2, 3, none⟩ = some (.int .u64 b.bits) ∧ w'.cell? ⟨g2, 4, none⟩ = some (.int .u64 b.per) ∧ w'.cell? ⟨g2, 5, none⟩ = some (.slice BL b.ls.length dL) ∧ w'.cell? ⟨g2, 6, none⟩ = some (.slice BC b.cl.length dC)))
        (first | exact KS.out _ (Ext.refl _).drew | exact KS.out _ (by assumption))
        (first | (go_at_call 18; refine (H1.out _ (by first | assumption | exact (Ext.refl _).drew | exact Ext.refl _)).mono ?_; rintro e w5 ⟨rfl, e5⟩; have S5 : Ext w4 w5 := Ext.trans (by first | assumption | exact (Ext.refl _).drew | exact Ext.refl _) e5; clear e5) | (go_at_call 13; refine (H2.out _ (by first | assumption | exact (Ext.refl _).drew | exact Ext.refl _)).mono ?_; rintro e w6 ⟨rfl, e6⟩; have S6 : Ext w4 w6 := Ext.trans (by first | assumption | exact (Ext.refl _).drew | exact Ext.refl _) e6; clear e6) | (go_at_call 19; (with_reducible refine (H3.out _ ?ex).mono ?_); (case ex => exact (by first | assumption | exact (Ext.refl _).drew | exact Ext.refl _)); rintro e w7 ⟨rfl, e7⟩; have S7 : Ext w4 w7 := Ext.trans (by first | assumption | exact (Ext.refl _).drew | exact Ext.refl _) e7; clear e7) | (go_at_call 20; (with_reducible refine (H4.out _ ?ex).mono ?_); (case ex => exact (by first | assumption | exact (Ext.refl _).drew | exact Ext.refl _)); rintro e w8 ⟨rfl, e8⟩; have S8 : Ext w4 w8 := Ext.trans (by first | assumption | exact (Ext.refl _).drew | exact Ext.refl _) e8; clear e8) | (go_at_call 21; refine (H5.out _ (by first | assumption | exact (Ext.refl _).drew | exact Ext.refl _)).mono ?_; rintro e w9 ⟨CL, c5, CC, c6, rfl, o9, e9⟩; have O9 := Lib.hid o9; have S9 : Ext w4 w9 := Ext.trans (by first | assumption | exact (Ext.refl _).drew | exact Ext.refl _) e9; clear e9 o9) | (go_at_call 19; refine (H6.out _ _ _ _ _ (by first | assumption | exact (Ext.refl _).drew | exact Ext.refl _) O9.out).mono ?_; rintro e w10 ⟨rfl, e10⟩; have S10 : Ext w4 w10 := Ext.trans (by first | assumption | exact (Ext.refl _).drew | exact Ext.refl _) e10; clear e10) | (go_at_call 20; refine (H7.out _ _ _ _ _ (by first | assumption | exact (Ext.refl _).drew | exact Ext.refl _) O9.out).mono ?_; rintro e w11 ⟨rfl, e11⟩; have S11 : Ext w4 w11 := Ext.trans (by first | assumption | exact (Ext.refl _).drew | exact Ext.refl _) e11; clear e11) | (go_at_call 14; refine (H8.out _ (by first | assumption | exact (Ext.refl _).drew | exact Ext.refl _)).mono ?_; rintro e w12 ⟨rfl, e12⟩; have S12 : Ext w4 w12 := Ext.trans (by first | assumption | exact (Ext.refl _).drew | exact Ext.refl _) e12; clear e12))
      go_wp2_with fail
      go_ret
      exact ⟨rfl, E4.out.trans S12⟩
end Go.Proofs.YtkbjnlbbfapgdaaDoor
