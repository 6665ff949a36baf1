/- Contracts of math.Abs, math.IsInf(f, 0), price.Check; rec.Has, known, plain. -/
import Derived.Test.YtkbjnlbbfapgdaaDoorRealC
import Derived.Laws.BitsAll
set_option maxRecDepth 100000
set_option linter.unusedVariables false
set_option linter.unusedSimpArgs false
namespace Go.Proofs.YtkbjnlbbfapgdaaDoor
open Go.RowKit

theorem abs_bits (x : Nat) (hx : x < 18446744073709551616) : bits BinOp.andNot IntKind.u64 (x : Int) 9223372036854775808 = ((x % 9223372036854775808 : Nat) : Int) := by
  have h := u64_andNot_nat x 9223372036854775808 hx (by omega)
  rw [show 18446744073709551615 - 9223372036854775808 = 2 ^ 63 - 1 by decide, Nat.and_two_pow_sub_one_eq_mod] at h
  exact h

theorem abs_calls (x : Nat) (w : World) (hx : x < 18446744073709551616) : Calls Tryd.prog 142 #[.float .f64 x] w fun e w' => e = .returned (.float .f64 (x % 9223372036854775808)) ∧ w = w' := by
  have hb := fun w => run_bits x w
  have ha := abs_bits x hx
  generalize x % 9223372036854775808 = y at *
  have hc := fun w => run_frombits y w
  go_enter Tryd.func142, Tryd.ntmps142
  go_wp2
  go_ret
  exact ⟨rfl, rfl⟩

def infB (x : Nat) : Bool := decide (x % 9223372036854775808 = 9218868437227405312)
theorem isinf_any (x : Nat) (w : World) (hx : x < 18446744073709551616) (hn : isNaN x = false) : Calls Tryd.prog 132 #[.float .f64 x, .int .i64 0] w fun e w' => e = .returned (.bool (infB x)) ∧ w = w' := by
  have hn' : ¬ 9218868437227405312 < x % 9223372036854775808 := by simpa [isNaN] using hn
  have H : Hid ((Ieee.double.order (x % 9223372036854775808) 9218868437227405311 == some .gt) = infB x) := by
    show _ = _
    by_cases h : x % 9223372036854775808 = 9218868437227405312
    · rw [ord_max_inf (by omega), infB]
      rw [Bool.eq_iff_iff]; simp; omega
    · rw [ord_max_fin (by omega), infB]
      rw [Bool.eq_iff_iff]; simp; omega
  clear hn
  go_enter Tryd.func132, Tryd.ntmps132
  go_wp2_with fail
  refine (abs_calls x _ hx).mono ?_
  rintro e w' ⟨rfl, rfl⟩
  generalize x % 9223372036854775808 = y at *
  go_wp2_with fail
  go_ret
  exact ⟨congrArg (fun b => Ending.returned (.bool b)) H.out, rfl⟩

def pcV (x : Nat) : Nat := if clsN x = 3 ∨ clsN x = 4 ∨ clsN x = 5 then canonN x else 0
def pcE (x : Nat) : Int := if clsN x = 3 ∨ clsN x = 4 ∨ clsN x = 5 then 0 else 13

set_option maxHeartbeats 1000000 in
theorem pcheck_calls (x : Nat) (w : World) (hx : x < 18446744073709551616) : Calls Tryd.prog 103 #[.int .u64 x] w fun e w' => e = .returned (.tuple #[.int .u64 (pcV x), .int .i64 (pcE x)]) ∧ w = w' := by
  have hc := fun w => run_frombits x w
  have HR := Lib.hid (cls_ranges hx)
  cases hn : isNaN x
  · have hn' : ¬ 9218868437227405312 < x % 9223372036854775808 := by simpa [isNaN] using hn
    cases hi : infB x
    · have hi' : x % 9223372036854775808 ≠ 9218868437227405312 := by simpa [infB] using hi
      have ho := ord_zero_fin (x := x) (by omega)
      by_cases h0 : x % 9223372036854775808 = 0
      · rw [if_pos h0] at ho
        have ho : (FloatKind.f64.format.order x 0 == some Ordering.lt) = false := by show (Ieee.double.order x 0 == some Ordering.lt) = false; rw [ho]; rfl
        have hcl : clsN x = 3 ∨ clsN x = 4 ∨ clsN x = 5 := by have := HR.out; omega
        have HV : Hid (pcV x = canonN x) := if_pos hcl
        have HE : Hid (pcE x = 0) := if_pos hcl
        clear hn' hi' h0 hcl
        go_enter Tryd.func103, Tryd.ntmps103
        go_wp2_with fail
        refine (isnan_calls x _).mono ?_
        rintro e w' ⟨rfl, rfl⟩
        rw [hn]
        go_wp2_with fail
        refine (isinf_any x _ hx hn).mono ?_
        rintro e w' ⟨rfl, rfl⟩
        rw [hi]
        go_wp2_with fail
        refine (canon_calls x _ hx).mono ?_
        rintro e w' ⟨rfl, rfl⟩
        go_wp2_with fail
        go_ret2
        rw [HV.out, HE.out]
        exact ⟨rfl, rfl⟩
      · rw [if_neg h0] at ho
        by_cases h1 : x / 9223372036854775808 % 2 = 1
        · rw [if_pos h1] at ho
          have ho : (FloatKind.f64.format.order x 0 == some Ordering.lt) = true := by show (Ieee.double.order x 0 == some Ordering.lt) = true; rw [ho]; rfl
          have hcl : ¬ (clsN x = 3 ∨ clsN x = 4 ∨ clsN x = 5) := by have := HR.out; omega
          have HV : Hid (pcV x = 0) := if_neg hcl
          have HE : Hid (pcE x = 13) := if_neg hcl
          clear hn' hi' h0 hcl h1
          go_enter Tryd.func103, Tryd.ntmps103
          go_wp2_with fail
          refine (isnan_calls x _).mono ?_
          rintro e w' ⟨rfl, rfl⟩
          rw [hn]
          go_wp2_with fail
          refine (isinf_any x _ hx hn).mono ?_
          rintro e w' ⟨rfl, rfl⟩
          rw [hi]
          go_wp2_with fail
          go_ret2
          rw [HV.out, HE.out]
          exact ⟨rfl, rfl⟩
        · rw [if_neg h1] at ho
          have ho : (FloatKind.f64.format.order x 0 == some Ordering.lt) = false := by show (Ieee.double.order x 0 == some Ordering.lt) = false; rw [ho]; rfl
          have hcl : clsN x = 3 ∨ clsN x = 4 ∨ clsN x = 5 := by have := HR.out; omega
          have HV : Hid (pcV x = canonN x) := if_pos hcl
          have HE : Hid (pcE x = 0) := if_pos hcl
          clear hn' hi' h0 hcl h1
          go_enter Tryd.func103, Tryd.ntmps103
          go_wp2_with fail
          refine (isnan_calls x _).mono ?_
          rintro e w' ⟨rfl, rfl⟩
          rw [hn]
          go_wp2_with fail
          refine (isinf_any x _ hx hn).mono ?_
          rintro e w' ⟨rfl, rfl⟩
          rw [hi]
          go_wp2_with fail
          refine (canon_calls x _ hx).mono ?_
          rintro e w' ⟨rfl, rfl⟩
          go_wp2_with fail
          go_ret2
          rw [HV.out, HE.out]
          exact ⟨rfl, rfl⟩
    · have hi' : x % 9223372036854775808 = 9218868437227405312 := by simpa [infB] using hi
      have hcl : ¬ (clsN x = 3 ∨ clsN x = 4 ∨ clsN x = 5) := by have := HR.out; omega
      have HV : Hid (pcV x = 0) := if_neg hcl
      have HE : Hid (pcE x = 13) := if_neg hcl
      clear hn' hi' hcl
      go_enter Tryd.func103, Tryd.ntmps103
      go_wp2_with fail
      refine (isnan_calls x _).mono ?_
      rintro e w' ⟨rfl, rfl⟩
      rw [hn]
      go_wp2_with fail
      refine (isinf_any x _ hx hn).mono ?_
      rintro e w' ⟨rfl, rfl⟩
      rw [hi]
      go_wp2_with fail
      go_ret2
      rw [HV.out, HE.out]
      exact ⟨rfl, rfl⟩
  · have hn' : 9218868437227405312 < x % 9223372036854775808 := by simpa [isNaN] using hn
    have hcl : ¬ (clsN x = 3 ∨ clsN x = 4 ∨ clsN x = 5) := by have := HR.out; omega
    have HV : Hid (pcV x = 0) := if_neg hcl
    have HE : Hid (pcE x = 13) := if_neg hcl
    clear hn' hcl
    go_enter Tryd.func103, Tryd.ntmps103
    go_wp2_with fail
    refine (isnan_calls x _).mono ?_
    rintro e w' ⟨rfl, rfl⟩
    rw [hn]
    go_wp2_with fail
    go_ret2
    rw [HV.out, HE.out]
    exact ⟨rfl, rfl⟩

def plainB (x : Nat) : Bool := decide (clsN x = 4 ∨ clsN x = 5)
theorem plain_calls (x : Nat) (w : World) (hx : x < 18446744073709551616) : Calls Tryd.prog 123 #[.int .u64 x] w fun e w' => e = .returned (.bool (plainB x)) ∧ w = w' := by
  have HR := Lib.hid (cls_ranges hx)
  by_cases h : clsN x = 3 ∨ clsN x = 4 ∨ clsN x = 5
  · have he : pcE x = 0 := if_pos h
    have HV : Hid (((pcV x : Int) == (x : Int)) = plainB x) := by
      show _ = _
      rw [show pcV x = canonN x from if_pos h, canonN, plainB, Bool.eq_iff_iff]
      simp only [beq_iff_eq, decide_eq_true_eq]
      have := HR.out
      rcases h with h | h | h <;> rw [h] <;> simp <;> omega
    clear h
    go_enter Tryd.func123, Tryd.ntmps123
    go_wp2_with fail
    refine (pcheck_calls x _ hx).mono ?_
    rintro e w' ⟨rfl, rfl⟩
    rw [he]
    go_wp2_with fail
    go_ret
    exact ⟨congrArg (fun b => Ending.returned (.bool b)) HV.out, rfl⟩
  · have he : pcE x = 13 := if_neg h
    have HV : Hid (plainB x = false) := by
      show _ = _
      rw [plainB, decide_eq_false]; omega
    clear h
    go_enter Tryd.func123, Tryd.ntmps123
    go_wp2_with fail
    refine (pcheck_calls x _ hx).mono ?_
    rintro e w' ⟨rfl, rfl⟩
    rw [he]
    go_wp2_with fail
    go_ret
    exact ⟨congrArg (fun b => Ending.returned (.bool b)) HV.out.symm, rfl⟩
end Go.Proofs.YtkbjnlbbfapgdaaDoor
