/- acct.Clone; acct.plain. -/
import Derived.Test.YtkbjnlbbfapgdaaDoorAcctT
import Derived.Test.YtkbjnlbbfapgdaaDoorAcctP
import Derived.Test.YtkbjnlbbfapgdaaDoorArr2
set_option maxRecDepth 100000
set_option linter.unusedVariables false
set_option linter.unusedSimpArgs false
namespace Go.Proofs.YtkbjnlbbfapgdaaDoor
open Go.RowKit

theorem OwnV.none_cap {w : World} {base : Nat} {e : TypeId} {size : Nat} {A : Option Addr} {n c : Nat} {xs : List Value} (h : OwnV w base e size A n c xs) : A = none → c = 0 := by
  intro hA
  rcases h.2 with ⟨hv, hn⟩ | ⟨g, cap, cur, hv, _⟩
  · injection hv
  · subst hA; injection hv with h1; cases h1
theorem OwnV.rde {α : Type} {f : α → List Value} {w : World} {base : Nat} {e : TypeId} {size : Nat} {A : Option Addr} {n c : Nat} {xs : List α} (h : OwnV w base e size A n c (xs.flatMap f)) : RdE f w A xs := h.rd
theorem OwnV.apart {w w2 : World} {base b : Nat} {e e2 : TypeId} {size size2 : Nat} {A A2 : Option Addr} {n c n2 c2 : Nat} {xs ys : List Value} (h : OwnV w base e size A n c xs) (h2 : OwnV w2 b e2 size2 A2 n2 c2 ys) (hb : w.heap.size ≤ b) : blk A = none ∨ blk A ≠ blk A2 := by
  cases hA : blk A with
  | none => exact .inl rfl
  | some k =>
    refine .inr fun he => ?_
    have h3 := h.base_ k hA
    have h4 := h2.base_ k he.symm
    omega

def Ac0 : Ac := ⟨ByteArray.empty, 0, 0, 0, 0, [], []⟩
theorem zero_acct : (Tryd.prog.info? 26).map (fun i => (i.zero, i.size)) = some (some (.agg (acV Ac0 none 0 none 0)), 7) := by kernel_rfl
theorem size_acct : (Tryd.prog.info? 26).map (·.size) = some 7 := by kernel_rfl
theorem size_lsl : (Tryd.prog.info? 23).map (·.size) = some 1 := by kernel_rfl
theorem size_stl : (Tryd.prog.info? 24).map (·.size) = some 1 := by kernel_rfl
theorem ac_one (a : Ac) (AL : Option Addr) (cL : Nat) (AC : Option Addr) (cC : Nat) : ∀ v ∈ acV a AL cL AC cC, v.oneCell' = true := by
  intro v hv
  simp [acV] at hv
  rcases hv with rfl | rfl | rfl | rfl | rfl | rfl | rfl <;> rfl
/-- an account whose lists are the call's own -/
def OwnA (w : World) (base : Nat) (a : Ac) (AL : Option Addr) (cL : Nat) (AC : Option Addr) (cC : Nat) : Prop :=
  OwnV w base 64 2 AL a.ls.length cL (a.ls.flatMap Lz.cs) ∧ OwnV w base 70 6 AC a.cl.length cC (a.cl.flatMap St.cs) ∧ (blk AL = none ∨ blk AL ≠ blk AC)
theorem OwnA.rd {w : World} {base : Nat} {a : Ac} {AL AC : Option Addr} {cL cC : Nat} (h : OwnA w base a AL cL AC cC) : RdA w a AL AC := ⟨h.1.rde, h.2.1.rde⟩
theorem OwnA.ext {w w1 : World} {base : Nat} {a : Ac} {AL AC : Option Addr} {cL cC : Nat} (h : OwnA w base a AL cL AC cC) (e : Ext w w1) : OwnA w1 base a AL cL AC cC := ⟨h.1.ext e, h.2.1.ext e, h.2.2⟩
def RetOA (w : World) (a : Ac) (e : Ending) (w' : World) : Prop := ∃ AL cL AC cC, e = .returned (acA a AL cL AC cC) ∧ OwnA w' w.heap.size a AL cL AC cC ∧ Ext w w'

set_option maxHeartbeats 4000000 in
theorem aclone_calls (a : Ac) (AL AC : Option Addr) (cL cC : Nat) (w : World) (ha : RdA w a AL AC) (n1 : AL = none → cL = 0) (n2 : AC = none → cC = 0) (h1 : a.ls.length ≤ 100000) (h2 : a.cl.length ≤ 100000) :
    Calls Tryd.prog 21 #[acA a AL cL AC cC] w (RetOA w a) := by
  have HA := Lib.hid ha
  have HCL : Hid (∀ W, Ext w W → Calls Tryd.prog 67 #[.slice AL a.ls.length cL] W fun e w' => ∃ A' c', e = .returned (.slice A' a.ls.length c') ∧ OwnV w' W.heap.size 64 2 A' a.ls.length c' (a.ls.flatMap Lz.cs) ∧ Ext W w') := fun W e => cloneLz AL cL a.ls W (HA.out.1.ext e) h1 n1
  have HCS : Hid (∀ W, Ext w W → Calls Tryd.prog 68 #[.slice AC a.cl.length cC] W fun e w' => ∃ A' c', e = .returned (.slice A' a.cl.length c') ∧ OwnV w' W.heap.size 70 6 A' a.cl.length c' (a.cl.flatMap St.cs) ∧ Ext W w') := fun W e => cloneSt AC cC a.cl W (HA.out.2.ext e) h2 n2
  clear ha n1 n2
  unfold acA
  go_enter Tryd.func21, Tryd.ntmps21
  go_wp2_with (first
    | ((with_reducible show wpList _ _ _ ({ dst := some 1, op := Op.box 26 _, type := _, pos := _, after := _, guard := _ } :: _) _ _); refine bxA _ rfl 26 _ rfl _ rfl ?_; intro g1 w1 hg hs1 k1 e1; have HG := Lib.hid hg; have X1 := Lib.hid k1; have E1 := Lib.hid e1; clear hg hs1 k1 e1)
    | ((with_reducible show wpList _ _ _ ({ dst := some 2, op := Op.alloc 26, type := _, pos := _, after := _, guard := _ } :: _) _ _); refine alA _ rfl 26 rfl _ _ zero_acct ?_; intro g2 w2 hg hs1 k1 e1; have HG2 := Lib.hid (show g1 < g2 ∧ w.heap.size ≤ g2 from ⟨by have := X1.out.lt; omega, by have := E1.out.size; omega⟩); have X2 := Lib.hid (X1.out.ext e1); have Y2 := Lib.hid k1; have E2 := Lib.hid (E1.out.trans e1); obtain ⟨a0, a1, a2, a3, a4, a5, a6⟩ := ac_cells X2.out; clear hg hs1 k1 e1)
    | (go_at_call 67; refine (HCL.out _ E2.out).mono ?_; rintro e w3 ⟨A3, c3, rfl, o3, e3⟩; have O3 := Lib.hid o3; have E3 := Lib.hid (E2.out.trans e3); have X3 := Lib.hid (X2.out.ext e3); have Y3 := Lib.hid (Y2.out.ext e3); have S3 := Lib.hid e3.size; clear e3 o3 a0 a1 a2 a3 a4 a5 a6)
    | ((with_reducible show wpList _ _ _ ({ dst := none, op := Op.store 23 _ _, type := _, pos := _, after := _, guard := _ } :: _) _ _); refine stF _ rfl 23 _ _ rfl g1 5 (.slice A3 a.ls.length c3) _ _ rfl rfl X3.out (by show 5 < 7; decide) size_lsl rfl ?_; intro w4 hs k4 g4; have X4 := Lib.hid (show Arr w4 g1 26 (acV a A3 c3 AC cC) from k4); have Y4 := Lib.hid (Y3.out.grown g4 (by have := HG2.out.1; intro hh; injection hh; omega)); have E4 := Lib.hid (E3.out.grown g4 (fun k hk => by injection hk with hk; have := HG.out; omega)); have O4 := Lib.hid (O3.out.keep g4 (by first | exact .inl rfl | (cases hb : blk A3 with | none => exact .inl rfl | some k => refine .inr (fun hh => ?_); injection hh with hh; have hq := (O3.out.base_ k hb).1; have := HG2.out; have := Y2.out.lt; omega))); obtain ⟨a0, a1, a2, a3, a4, a5, a6⟩ := ac_cells X4.out; clear hs k4 g4 O3 Y3 X3 E3)
    | (go_at_call 68; refine (HCS.out _ E4.out).mono ?_; rintro e w5 ⟨A5, c5, rfl, o5, e5⟩; have O5 := Lib.hid o5; have E5 := Lib.hid (E4.out.trans e5); have X5 := Lib.hid (X4.out.ext e5); have Y5 := Lib.hid (Y4.out.ext e5); have P5 := Lib.hid (O4.out.ext e5); have Q5 := Lib.hid (O4.out.apart o5 (Nat.le_refl _)); have S5 := Lib.hid (show g1 < w4.heap.size from X4.out.lt); clear e5 o5 a0 a1 a2 a3 a4 a5 a6)
    | ((with_reducible show wpList _ _ _ ({ dst := none, op := Op.store 24 _ _, type := _, pos := _, after := _, guard := _ } :: _) _ _); refine stF _ rfl 24 _ _ rfl g1 6 (.slice A5 a.cl.length c5) _ _ rfl rfl X5.out (by show 6 < 7; decide) size_stl rfl ?_; intro w6 hs k6 g6; have X6 := Lib.hid (show Arr w6 g1 26 (acV a A3 c3 A5 c5) from k6); have Y6 := Lib.hid (Y5.out.grown g6 (by have := HG2.out.1; intro hh; injection hh; omega)); have E6 := Lib.hid (E5.out.grown g6 (fun k hk => by injection hk with hk; have := HG.out; omega)); have P6 := Lib.hid (P5.out.keep g6 (by cases hb : blk A3 with | none => exact .inl rfl | some k => refine .inr (fun hh => ?_); injection hh with hh; have hq := (O4.out.base_ k hb).1; have := HG2.out; have := Y2.out.lt; omega)); have O6 := Lib.hid (O5.out.keep g6 (by cases hb : blk A5 with | none => exact .inl rfl | some k => refine .inr (fun hh => ?_); injection hh with hh; have hq := (O5.out.base_ k hb).1; have := S5.out; omega)); clear hs k6 g6)
    | ((with_reducible show wpList _ _ _ ({ dst := some 11, op := Op.load 26 _, type := _, pos := _, after := _, guard := _ } :: _) _ _); refine ldA _ rfl 26 26 _ rfl g1 rfl _ _ X6.out Tryd.underlying26 rfl size_acct ?_)
    | ((with_reducible show wpList _ _ _ ({ dst := none, op := Op.store 26 _ _, type := _, pos := _, after := _, guard := _ } :: _) _ _); refine stA _ rfl 26 26 _ _ rfl g2 _ (acV a A3 c3 A5 c5) rfl rfl Y6.out size_acct rfl (ac_one _ _ _ _ _) ?_; intro w7 hs k7 g7; have Y7 := Lib.hid k7; have E7 := Lib.hid (E6.out.grown g7 (fun k hk => by injection hk with hk; have := HG2.out; omega)); clear hs k7; have P7 := Lib.hid (P6.out.keep g7 (by cases hb : blk A3 with | none => exact .inl rfl | some k => refine .inr (fun hh => ?_); injection hh with hh; have hq := (O4.out.base_ k hb).1; have := Y2.out.lt; omega)); have O7 := Lib.hid (O6.out.keep g7 (by cases hb : blk A5 with | none => exact .inl rfl | some k => refine .inr (fun hh => ?_); injection hh with hh; have hq := (O5.out.base_ k hb).1; have := Y4.out.lt; omega)); clear g7))
  exact ret_row Tryd.results21 g2 _ _ _ rfl Y7.out Tryd.underlying26 rfl size_acct ⟨A3, c3, A5, c5, rfl, ⟨P7.out.lower (by have := E2.out.size; omega), O7.out.lower (by have := E4.out.size; omega), Q5.out⟩, E7.out⟩
end Go.Proofs.YtkbjnlbbfapgdaaDoor
