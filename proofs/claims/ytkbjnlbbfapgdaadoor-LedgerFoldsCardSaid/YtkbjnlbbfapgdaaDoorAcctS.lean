/- acct.Same, ref15.Same; accounts as values. -/
import Derived.Test.YtkbjnlbbfapgdaaDoorAcctQ
set_option maxRecDepth 100000
set_option linter.unusedVariables false
set_option linter.unusedSimpArgs false
namespace Go.Proofs.YtkbjnlbbfapgdaaDoor
open Go.RowKit

structure Ac where
  ten : ByteArray
  cap : Nat
  used : Nat
  bits : Nat
  per : Nat
  ls : List Lz
  cl : List St
theorem Ac.eq_iff (a b : Ac) : a = b ↔ a.ten = b.ten ∧ a.cap = b.cap ∧ a.used = b.used ∧ a.bits = b.bits ∧ a.per = b.per ∧ a.ls = b.ls ∧ a.cl = b.cl := by cases a; cases b; simp
instance : DecidableEq Ac := fun a b => decidable_of_iff _ (Ac.eq_iff a b).symm
def acV (a : Ac) (AL : Option Addr) (cL : Nat) (AC : Option Addr) (cC : Nat) : Array Value := #[.string a.ten, .int .u64 a.cap, .int .u64 a.used, .int .u64 a.bits, .int .u64 a.per, .slice AL a.ls.length cL, .slice AC a.cl.length cC]
def acA (a : Ac) (AL : Option Addr) (cL : Nat) (AC : Option Addr) (cC : Nat) : Value := .agg (acV a AL cL AC cC)
/-- the account's lists can be read -/
def RdA (w : World) (a : Ac) (AL AC : Option Addr) : Prop := RdE Lz.cs w AL a.ls ∧ RdE St.cs w AC a.cl
theorem RdA.ext {w w1 : World} {a : Ac} {AL AC : Option Addr} (h : RdA w a AL AC) (e : Ext w w1) : RdA w1 a AL AC := ⟨h.1.ext e, h.2.ext e⟩
theorem ac_cells {w : World} {g : Nat} {t : TypeId} {a : Ac} {AL AC : Option Addr} {cL cC : Nat} (h : Arr w g t (acV a AL cL AC cC)) :
    w.cell? ⟨g, 0, none⟩ = some (.string a.ten) ∧ w.cell? ⟨g, 1, none⟩ = some (.int .u64 a.cap) ∧ w.cell? ⟨g, 2, none⟩ = some (.int .u64 a.used) ∧ w.cell? ⟨g, 3, none⟩ = some (.int .u64 a.bits) ∧ w.cell? ⟨g, 4, none⟩ = some (.int .u64 a.per) ∧ w.cell? ⟨g, 5, none⟩ = some (.slice AL a.ls.length cL) ∧ w.cell? ⟨g, 6, none⟩ = some (.slice AC a.cl.length cC) :=
  ⟨h.cell 0, h.cell 1, h.cell 2, h.cell 3, h.cell 4, h.cell 5, h.cell 6⟩
theorem str_eq (a b : ByteArray) : a.toList = b.toList ↔ a = b := by
  have := str_beq a b
  rw [Bool.eq_iff_iff] at this
  simpa using this
theorem eq_dec (a b : Ac) : decide (a = b) = (decide (a.ten.toList = b.ten.toList) && decide ((a.cap : Int) = b.cap) && decide ((a.used : Int) = b.used) && decide ((a.bits : Int) = b.bits) && decide ((a.per : Int) = b.per) && decide (a.ls = b.ls) && decide (a.cl = b.cl)) := by
  rw [Bool.eq_iff_iff]
  simp only [Bool.and_eq_true, decide_eq_true_eq, Ac.eq_iff, str_eq, and_assoc]
  constructor
  · rintro ⟨h1, h2, h3, h4, h5, h6, h7⟩; exact ⟨h1, by omega, by omega, by omega, by omega, h6, h7⟩
  · rintro ⟨h1, h2, h3, h4, h5, h6, h7⟩; exact ⟨h1, by omega, by omega, by omega, by omega, h6, h7⟩
theorem ret_boolA {a b : Bool} (h : a = b) : Ending.returned (.bool a) = .returned (.bool b) := by rw [h]

set_option maxHeartbeats 4000000 in
theorem asame_calls (a b : Ac) (AL AC BL BC : Option Addr) (cL cC dL dC : Nat) (w : World) (ha : RdA w a AL AC) (hb : RdA w b BL BC) (h1 : a.ls.length ≤ 100000) (h2 : a.cl.length ≤ 100000) (h3 : b.ls.length ≤ 100000) (h4 : b.cl.length ≤ 100000) :
    Calls Tryd.prog 19 #[acA a AL cL AC cC, acA b BL dL BC dC] w (RetV w (.bool (decide (a = b)))) := by
  have HA := Lib.hid ha
  have HB := Lib.hid hb
  clear ha hb
  have HEL : Hid (∀ W, Ext w W → Calls Tryd.prog 65 #[.slice AL a.ls.length cL, .slice BL b.ls.length dL] W (RetV W (.bool (decide (a.ls = b.ls))))) := fun W e => equalLz AL BL cL dL a.ls b.ls W (HA.out.1.ext e) (HB.out.1.ext e) h1 h3
  have HES : Hid (∀ W, Ext w W → Calls Tryd.prog 66 #[.slice AC a.cl.length cC, .slice BC b.cl.length dC] W (RetV W (.bool (decide (a.cl = b.cl))))) := fun W e => equalSt AC BC cC dC a.cl b.cl W (HA.out.2.ext e) (HB.out.2.ext e) h2 h4
  have HEQ : Hid (decide (a = b) = (decide (a.ten.toList = b.ten.toList) && decide ((a.cap : Int) = b.cap) && decide ((a.used : Int) = b.used) && decide ((a.bits : Int) = b.bits) && decide ((a.per : Int) = b.per) && decide (a.ls = b.ls) && decide (a.cl = b.cl))) := eq_dec a b
  unfold acA
  go_enter Tryd.func19, Tryd.ntmps19
  go_wp2_with (first | ((with_reducible show wpList _ _ _ ({ dst := some 2, op := Op.box 26 _, type := _, pos := _, after := _, guard := _ } :: _) _ _); refine bxA _ rfl 26 _ rfl _ rfl ?_; intro g1 w1 hg hs1 h1' e1; have HG1 := Lib.hid h1'; have E1 := Lib.hid e1; clear hg hs1 h1' e1) | ((with_reducible show wpList _ _ _ ({ dst := some 3, op := Op.box 26 _, type := _, pos := _, after := _, guard := _ } :: _) _ _); refine bxA _ rfl 26 _ rfl _ rfl ?_; intro g2 w2 hg hs1 h1' e1; have X1 := Lib.hid (HG1.out.ext e1); have X2 := Lib.hid h1'; have E2 := Lib.hid (E1.out.trans e1); obtain ⟨a0, a1, a2, a3, a4, a5, a6⟩ := ac_cells X1.out; obtain ⟨b0, b1, b2, b3, b4, b5, b6⟩ := ac_cells X2.out; clear hg hs1 h1' e1) | (go_at_call 65; refine (HEL.out _ E2.out).mono ?_; rintro e w3 ⟨rfl, e3⟩; have E3 := Lib.hid (E2.out.trans e3); have Y1 := Lib.hid (X1.out.ext e3); have Y2 := Lib.hid (X2.out.ext e3); clear e3 a0 a1 a2 a3 a4 a5 a6 b0 b1 b2 b3 b4 b5 b6; obtain ⟨a0, a1, a2, a3, a4, a5, a6⟩ := ac_cells Y1.out; obtain ⟨b0, b1, b2, b3, b4, b5, b6⟩ := ac_cells Y2.out) | (go_at_call 66; refine (HES.out _ E3.out).mono ?_; rintro e w4 ⟨rfl, e4⟩; have E4 := Lib.hid (E3.out.trans e4); clear e4))
  all_goals
    go_ret
    refine ⟨ret_boolA ?_, by first | exact E4.out | exact E3.out | exact E2.out⟩
    rw [HEQ.out]
    simp [*]
end Go.Proofs.YtkbjnlbbfapgdaaDoor
