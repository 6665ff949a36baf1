/- Contracts of wire.Has, known, size, numbers, text, Check. -/
import Derived.Test.YtlgngnkaiidbeaaNameT
import Derived.Test.YtlgngnkaiidbeaaArr
set_option maxRecDepth 100000
set_option linter.unusedVariables false
set_option linter.unusedSimpArgs false
namespace Go.Proofs.Ytlgngnkaiidbeaa
open Go.RowKit

def fS (k : Int) : Bool := decide (4 ≤ k) && decide (k ≤ 8)
def fN (k : Int) : Bool := k == 6 || k == 8
def fT (k : Int) : Bool := k == 2 || k == 4
def fD (k : Int) : Bool := k == 1 || k == 2 || k == 5
def knownF (k : Int) : Bool := decide (1 ≤ k) && decide (k ≤ 8)
def wNum (k s n : Int) : Bool := (!fS k || (decide ((if k = 8 then 0 else 1) ≤ s) && decide (s ≤ 255))) && (!fN k || (decide (1 ≤ n) && decide (n ≤ if k = 8 then 19 else 65535)))
def wTxt (k : Int) (t : List UInt8) : Bool := if k = 2 then tenantB t else if k = 4 then targetB t else true
def wLeast (k : Int) : Int := if k = 1 then 8 else if k = 2 then 32 else if k = 5 then 1 else 0
def wMost (k : Int) : Int := if k = 1 then 8 else if k = 2 then 32 else if k = 5 then 64 else 0
def wErr (k s n : Int) (t : List UInt8) (dl : Nat) : Int :=
  if knownF k = false then 5 else if wNum k s n = false then 6 else if wTxt k t = false then 7
  else if fD k = true ∧ wMost k < dl then 3
  else if (fS k = false ∧ s ≠ 0) ∨ (fN k = false ∧ n ≠ 0) ∨ (fT k = false ∧ t ≠ []) ∨ (fD k = false ∧ 0 < dl) ∨ (dl : Int) < wLeast k then 2 else 0
def fraA (k s n : Int) (t : ByteArray) (A : Option Addr) (dl c : Nat) : Value := .agg #[.int .i64 k, .int .i64 s, .int .i64 n, .string t, .slice A dl c]

theorem kindF_cases (k : Int) : k = 1 ∨ k = 2 ∨ k = 3 ∨ k = 4 ∨ k = 5 ∨ k = 6 ∨ k = 7 ∨ k = 8 ∨ k < 1 ∨ 8 < k := by omega
theorem ret_tmp4 {P : Program} {fn : Func} {t u v x : Tmp} {w : World} {a : Act} {R : Ending → World → Prop} (h : fn.results = #[.tmp t, .tmp u, .tmp v, .tmp x]) (hd : a.defers = [])
    (hR : R (.returned (.tuple #[a.tmps.getD t undef, a.tmps.getD u undef, a.tmps.getD v undef, a.tmps.getD x undef])) w) : bodyPost P fn R Exit.ret a w :=
  bodyPost_ret (by simp [results, h]) hd hR

theorem whas_calls (k : Int) (w : World) : Calls Try.prog 143 #[.int .i64 k] w fun e w' => e = .returned (.tuple #[.bool (fS k), .bool (fN k), .bool (fT k), .bool (fD k)]) ∧ w = w' := by
  by_cases hr : 1 ≤ k ∧ k ≤ 8
  · rcases kindF_cases k with rfl | rfl | rfl | rfl | rfl | rfl | rfl | rfl | h | h
    all_goals try omega
    all_goals
      clear hr
      go_enter Try.func143, Try.ntmps143
      go_wp2_with fail
      refine ret_tmp4 rfl rfl ?_
      exact ⟨rfl, rfl⟩
  · have e1 : (k == 1) = false := beq_eq_false_iff_ne.2 (by omega)
    have e2 : (k == 2) = false := beq_eq_false_iff_ne.2 (by omega)
    have e4 : (k == 4) = false := beq_eq_false_iff_ne.2 (by omega)
    have e5 : (k == 5) = false := beq_eq_false_iff_ne.2 (by omega)
    have e6 : (k == 6) = false := beq_eq_false_iff_ne.2 (by omega)
    have e7 : (k == 7) = false := beq_eq_false_iff_ne.2 (by omega)
    have e8 : (k == 8) = false := beq_eq_false_iff_ne.2 (by omega)
    have HH : Hid (fS k = false ∧ fN k = false ∧ fT k = false ∧ fD k = false) := by show _ ∧ _; simp [fS, fN, fT, fD, e1, e2, e4, e5, e6, e8]; omega
    clear hr
    go_enter Try.func143, Try.ntmps143
    go_wp2_with fail
    refine ret_tmp4 rfl rfl ?_
    rw [HH.out.1, HH.out.2.1, HH.out.2.2.1, HH.out.2.2.2]
    exact ⟨rfl, rfl⟩

theorem wknown_calls (k : Int) (w : World) : Calls Try.prog 142 #[.int .i64 k] w fun e w' => e = .returned (.bool (knownF k)) ∧ w = w' := by
  by_cases h : 1 ≤ k
  · have HK : Hid (knownF k = decide (k ≤ 8)) := by simp [Hid, knownF, h]
    go_enter Try.func142, Try.ntmps142
    go_wp2_with fail
    go_ret
    rw [HK.out]
    exact ⟨rfl, rfl⟩
  · have HK : Hid (knownF k = false) := by simp [Hid, knownF]; omega
    go_enter Try.func142, Try.ntmps142
    go_wp2_with fail
    go_ret
    rw [HK.out]
    exact ⟨rfl, rfl⟩

theorem wsize_calls (k : Int) (w : World) : Calls Try.prog 168 #[.int .i64 k] w fun e w' => e = .returned (.tuple #[.int .i64 (wLeast k), .int .i64 (wMost k)]) ∧ w = w' := by
  by_cases h1 : k = 1
  · subst h1
    go_enter Try.func168, Try.ntmps168
    go_wp2_with fail
    go_ret2
    exact ⟨rfl, rfl⟩
  by_cases h2 : k = 2
  · subst h2
    go_enter Try.func168, Try.ntmps168
    go_wp2_with fail
    go_ret2
    exact ⟨rfl, rfl⟩
  by_cases h5 : k = 5
  · subst h5
    go_enter Try.func168, Try.ntmps168
    go_wp2_with fail
    go_ret2
    exact ⟨rfl, rfl⟩
  have e1 : (k == 1) = false := beq_eq_false_iff_ne.2 (by omega)
  have e2 : (k == 2) = false := beq_eq_false_iff_ne.2 (by omega)
  have e5 : (k == 5) = false := beq_eq_false_iff_ne.2 (by omega)
  have HL : Hid (wLeast k = 0 ∧ wMost k = 0) := by simp [Hid, wLeast, wMost, h1, h2, h5]
  clear h1 h2 h5
  go_enter Try.func168, Try.ntmps168
  go_wp2_with fail
  go_ret2
  rw [HL.out.1, HL.out.2]
  exact ⟨rfl, rfl⟩

set_option maxHeartbeats 1000000 in
theorem wnumbers_calls (k s n : Int) (t : ByteArray) (A : Option Addr) (dl c : Nat) (w : World) (hk : knownF k = true) :
    Calls Try.prog 166 #[fraA k s n t A dl c] w (RetV w (.bool (wNum k s n))) := by
  unfold fraA
  have hk' : 1 ≤ k ∧ k ≤ 8 := by simpa [knownF] using hk
  clear hk
  rcases kindF_cases k with rfl | rfl | rfl | rfl | rfl | rfl | rfl | rfl | h | h
  all_goals try omega
  all_goals clear hk'
  all_goals
    go_enter Try.func166, Try.ntmps166
    go_wp2_with fail
    refine (whas_calls _ _).mono ?_
    rintro e w' ⟨rfl, rfl⟩
    simp only [show fS 1 = false from rfl, show fN 1 = false from rfl, show fS 2 = false from rfl, show fN 2 = false from rfl, show fS 3 = false from rfl, show fN 3 = false from rfl, show fS 4 = true from rfl, show fN 4 = false from rfl, show fS 5 = true from rfl, show fN 5 = false from rfl, show fS 6 = true from rfl, show fN 6 = true from rfl, show fS 7 = true from rfl, show fN 7 = false from rfl, show fS 8 = true from rfl, show fN 8 = true from rfl]
    go_wp2
    all_goals
      go_ret
      refine ⟨ret_boolN ?_, (Ext.refl w).alloc _⟩
      simp [wNum, fS, fN, *]
      try omega
end Go.Proofs.Ytlgngnkaiidbeaa
