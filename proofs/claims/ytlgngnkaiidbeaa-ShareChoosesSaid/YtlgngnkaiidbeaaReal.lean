/- Contracts of package math (bits of floating numbers), of real.Class and ref05.Class. -/
import Derived.Test.YtlgngnkaiidbeaaMem
import Derived.Test.YtlgngnkaiidbeaaPlainReal
set_option maxRecDepth 100000
set_option linter.unusedVariables false
set_option linter.unusedSimpArgs false
namespace Go.Proofs.Ytlgngnkaiidbeaa
open Go.RowKit

theorem run_frombits (x : Nat) (w : World) : (callFunc 68 #[.int .u64 (x : Int)]).run Try.prog w = .ok (.value (.float .f64 x)) w := by kernel_rfl
theorem run_bits (x : Nat) (w : World) : (callFunc 128 #[.float .f64 x]).run Try.prog w = .ok (.value (.int .u64 (x : Int))) w := by kernel_rfl
theorem run_fneg (x : Nat) (w : World) : (Op.unary UnOp.neg (Value.float FloatKind.f64 x)).run Try.prog w = .ok (.float .f64 (x ^^^ 9223372036854775808)) w := by
  simp [Op.unary, Op.negFloat, FloatKind.format, Ieee.double]

def isNaN (x : Nat) : Bool := decide (9218868437227405312 < x % 9223372036854775808)
theorem isnan_calls (x : Nat) (w : World) : Calls Try.prog 98 #[.float .f64 x] w fun e w' => e = .returned (.bool (isNaN x)) ∧ w = w' := by
  have H : Hid (Ieee.double.order x x = if isNaN x then none else some .eq) := by
    show _ = _
    by_cases h : 9218868437227405312 < x % 9223372036854775808
    · rw [ord_self_nan h]; simp [isNaN, h]
    · rw [ord_self_fin (by omega)]; simp [isNaN, h]
  go_enter Try.func98, Try.ntmps98
  go_wp2
  go_ret
  refine ⟨?_, rfl⟩
  show Ending.returned (.bool (Ieee.double.order x x != some .eq)) = _
  rw [H.out]
  cases isNaN x <;> rfl

def isInf (x : Nat) (neg : Bool) : Bool := x == (if neg then 18442240474082181120 else 9218868437227405312)
theorem isinf_pos (x : Nat) (w : World) (hx : x < 18446744073709551616) (hn : isNaN x = false) : Calls Try.prog 99 #[.float .f64 x, .int .i64 1] w fun e w' => e = .returned (.bool (isInf x false)) ∧ w = w' := by
  have hn' : ¬ 9218868437227405312 < x % 9223372036854775808 := by simpa [isNaN] using hn
  have H : Hid ((Ieee.double.order x 9218868437227405311 == some .gt) = isInf x false) := by
    show _ = _
    by_cases h : x % 9223372036854775808 = 9218868437227405312
    · rw [ord_max_inf h, isInf]
      rw [Bool.eq_iff_iff]; simp; omega
    · rw [ord_max_fin (by omega), isInf]
      rw [Bool.eq_iff_iff]; simp; omega
  clear hn
  go_enter Try.func99, Try.ntmps99
  go_wp2
  go_ret
  exact ⟨congrArg (fun b => Ending.returned (.bool b)) H.out, rfl⟩
theorem isinf_neg (x : Nat) (w : World) (hx : x < 18446744073709551616) (hn : isNaN x = false) : Calls Try.prog 99 #[.float .f64 x, .int .i64 (-1)] w fun e w' => e = .returned (.bool (isInf x true)) ∧ w = w' := by
  have hn' : ¬ 9218868437227405312 < x % 9223372036854775808 := by simpa [isNaN] using hn
  have H : Hid ((Ieee.double.order (x ^^^ 9223372036854775808) 9218868437227405311 == some .gt) = isInf x true) := by
    show _ = _
    rw [flip_top x hx]
    generalize hy : (if x < 9223372036854775808 then x + 9223372036854775808 else x - 9223372036854775808) = y
    have hy1 : y % 9223372036854775808 = x % 9223372036854775808 := by rw [← hy]; split <;> omega
    have hy2 : y / 9223372036854775808 % 2 = 1 ↔ x / 9223372036854775808 % 2 = 0 := by rw [← hy]; split <;> omega
    by_cases h : x % 9223372036854775808 = 9218868437227405312
    · rw [ord_max_inf (by omega), isInf]
      rw [Bool.eq_iff_iff]; simp; omega
    · rw [ord_max_fin (by omega), isInf]
      rw [Bool.eq_iff_iff]; simp; omega
  have hng := fun w => run_fneg x w
  clear hn
  generalize x ^^^ 9223372036854775808 = y at *
  go_enter Try.func99, Try.ntmps99
  go_wp2
  go_ret
  exact ⟨congrArg (fun b => Ending.returned (.bool b)) H.out, rfl⟩
theorem signbit_calls (x : Nat) (w : World) (hx : x < 18446744073709551616) : Calls Try.prog 100 #[.float .f64 x] w fun e w' => e = .returned (.bool (decide (9223372036854775808 ≤ x))) ∧ w = w' := by
  have hb := fun w => run_bits x w
  have HW : Hid (decide (wrap64 (x : Int) < 0) = decide (9223372036854775808 ≤ x)) := by
    show _ = _
    rw [Bool.eq_iff_iff]; simp only [decide_eq_true_eq]
    unfold wrap64
    omega
  go_enter Try.func100, Try.ntmps100
  go_wp2
  go_ret
  exact ⟨congrArg (fun b => Ending.returned (.bool b)) HW.out, rfl⟩

theorem cls_nan {x : Nat} (h : isNaN x = true) : clsN x = 0 := by
  have h : 9218868437227405312 < x % 9223372036854775808 := by simpa [isNaN] using h
  unfold clsN; rw [if_pos (by omega), if_pos (by omega)]
theorem cls_ninf {x : Nat} (h : isInf x true = true) : clsN x = 1 := by
  have h : x = 18442240474082181120 := by simpa [isInf] using h
  subst h; decide
theorem cls_pinf {x : Nat} (h : isInf x false = true) : clsN x = 6 := by
  have h : x = 9218868437227405312 := by simpa [isInf] using h
  subst h; decide
theorem cls_rest {x : Nat} (hx : x < 18446744073709551616) (h0 : isNaN x = false) (h1 : isInf x true = false) (h2 : isInf x false = false) :
    x % 9223372036854775808 < 9218868437227405312 ∧
    clsN x = if x % 9223372036854775808 = 0 then (if 9223372036854775808 ≤ x then 3 else 4) else if x / 9223372036854775808 % 2 = 1 then 2 else 5 := by
  have h0 : ¬ 9218868437227405312 < x % 9223372036854775808 := by simpa [isNaN] using h0
  have h1 : ¬ x = 18442240474082181120 := by simpa [isInf] using h1
  have h2 : ¬ x = 9218868437227405312 := by simpa [isInf] using h2
  have hlt : x % 9223372036854775808 < 9218868437227405312 := by omega
  refine ⟨hlt, ?_⟩
  unfold clsN
  rw [if_neg (by omega)]
  by_cases hz : x % 9223372036854775808 = 0
  · rw [if_pos hz, if_pos (by omega)]
    by_cases hs : 9223372036854775808 ≤ x
    · rw [if_pos hs, if_pos (by omega)]
    · rw [if_neg hs, if_neg (by omega)]
  · rw [if_neg hz, if_neg (by omega)]
    by_cases hs : x / 9223372036854775808 % 2 = 1
    · rw [if_pos hs, if_pos (by omega)]
    · rw [if_neg hs, if_neg (by omega)]

set_option maxHeartbeats 1000000 in
theorem class_calls (x : Nat) (w : World) (hx : x < 18446744073709551616) : Calls Try.prog 66 #[.int .u64 x] w fun e w' => e = .returned (.int .i64 (clsN x)) ∧ w = w' := by
  have hfb := fun w => run_frombits x w
  rcases hn : isNaN x with _ | _
  · rcases hi : isInf x true with _ | _
    · rcases hj : isInf x false with _ | _
      · obtain ⟨hf, hc⟩ := cls_rest hx hn hi hj
        have ho := ord_zero_fin hf
        have HN := Lib.hid hn; have HI := Lib.hid hi; have HJ := Lib.hid hj
        clear hn hi hj
        by_cases hz : x % 9223372036854775808 = 0
        · rw [if_pos hz] at hc ho
          have o1 : (FloatKind.f64.format.order x 0 == some .lt) = false := by show (Ieee.double.order x 0 == _) = _; rw [ho]; rfl
          have o2 : (FloatKind.f64.format.order x 0 == some .gt) = false := by show (Ieee.double.order x 0 == _) = _; rw [ho]; rfl
          have HS : Hid (clsN x = if 9223372036854775808 ≤ x then 3 else 4) := hc
          clear hz hc ho hf
          by_cases hs : 9223372036854775808 ≤ x
          all_goals
            go_enter Try.func66, Try.ntmps66
            go_wp2_with fail
            refine (isnan_calls x _).mono ?_
            rintro e w' ⟨rfl, rfl⟩
            rw [HN.out]
            go_wp2_with fail
            refine (isinf_neg x _ hx HN.out).mono ?_
            rintro e w' ⟨rfl, rfl⟩
            rw [HI.out]
            go_wp2_with fail
            refine (isinf_pos x _ hx HN.out).mono ?_
            rintro e w' ⟨rfl, rfl⟩
            rw [HJ.out]
            go_wp2_with fail
            refine (signbit_calls x _ hx).mono ?_
            rintro e w' ⟨rfl, rfl⟩
            first | rw [decide_eq_true hs] | rw [decide_eq_false hs]
            go_wp2_with fail
            go_ret
            refine ⟨?_, rfl⟩
            first | rw [HS.out, if_pos hs] | rw [HS.out, if_neg hs]
            rfl
        · rw [if_neg hz] at hc ho
          by_cases hs : x / 9223372036854775808 % 2 = 1
          · rw [if_pos hs] at hc ho
            have o1 : (FloatKind.f64.format.order x 0 == some .lt) = true := by show (Ieee.double.order x 0 == _) = _; rw [ho]; rfl
            have HC := Lib.hid hc
            clear hz hc ho hf hs
            go_enter Try.func66, Try.ntmps66
            go_wp2_with fail
            refine (isnan_calls x _).mono ?_
            rintro e w' ⟨rfl, rfl⟩
            rw [HN.out]
            go_wp2_with fail
            refine (isinf_neg x _ hx HN.out).mono ?_
            rintro e w' ⟨rfl, rfl⟩
            rw [HI.out]
            go_wp2_with fail
            refine (isinf_pos x _ hx HN.out).mono ?_
            rintro e w' ⟨rfl, rfl⟩
            rw [HJ.out]
            go_wp2_with fail
            go_ret
            rw [HC.out]
            exact ⟨rfl, rfl⟩
          · rw [if_neg hs] at hc ho
            have o1 : (FloatKind.f64.format.order x 0 == some .lt) = false := by show (Ieee.double.order x 0 == _) = _; rw [ho]; rfl
            have o2 : (FloatKind.f64.format.order x 0 == some .gt) = true := by show (Ieee.double.order x 0 == _) = _; rw [ho]; rfl
            have HC := Lib.hid hc
            clear hz hc ho hf hs
            go_enter Try.func66, Try.ntmps66
            go_wp2_with fail
            refine (isnan_calls x _).mono ?_
            rintro e w' ⟨rfl, rfl⟩
            rw [HN.out]
            go_wp2_with fail
            refine (isinf_neg x _ hx HN.out).mono ?_
            rintro e w' ⟨rfl, rfl⟩
            rw [HI.out]
            go_wp2_with fail
            refine (isinf_pos x _ hx HN.out).mono ?_
            rintro e w' ⟨rfl, rfl⟩
            rw [HJ.out]
            go_wp2_with fail
            go_ret
            rw [HC.out]
            exact ⟨rfl, rfl⟩
      · rw [cls_pinf hj]
        have HN := Lib.hid hn; have HI := Lib.hid hi; have HJ := Lib.hid hj
        clear hn hi hj
        go_enter Try.func66, Try.ntmps66
        go_wp2_with fail
        refine (isnan_calls x _).mono ?_
        rintro e w' ⟨rfl, rfl⟩
        rw [HN.out]
        go_wp2_with fail
        refine (isinf_neg x _ hx HN.out).mono ?_
        rintro e w' ⟨rfl, rfl⟩
        rw [HI.out]
        go_wp2_with fail
        refine (isinf_pos x _ hx HN.out).mono ?_
        rintro e w' ⟨rfl, rfl⟩
        rw [HJ.out]
        go_wp2_with fail
        go_ret
        exact ⟨rfl, rfl⟩
    · rw [cls_ninf hi]
      have HN := Lib.hid hn; have HI := Lib.hid hi
      clear hn hi
      go_enter Try.func66, Try.ntmps66
      go_wp2_with fail
      refine (isnan_calls x _).mono ?_
      rintro e w' ⟨rfl, rfl⟩
      rw [HN.out]
      go_wp2_with fail
      refine (isinf_neg x _ hx HN.out).mono ?_
      rintro e w' ⟨rfl, rfl⟩
      rw [HI.out]
      go_wp2_with fail
      go_ret
      exact ⟨rfl, rfl⟩
  · rw [cls_nan hn]
    have HN := Lib.hid hn
    clear hn
    go_enter Try.func66, Try.ntmps66
    go_wp2_with fail
    refine (isnan_calls x _).mono ?_
    rintro e w' ⟨rfl, rfl⟩
    rw [HN.out]
    go_wp2_with fail
    go_ret
    exact ⟨rfl, rfl⟩

theorem fields_calls (x : Nat) (w : World) (hx : x < 18446744073709551616) : Calls Try.prog 72 #[.int .u64 x] w fun e w' => e = .returned (.tuple #[.int .u64 ((x / 9223372036854775808 : Nat) : Int), .int .u64 ((x / 4503599627370496 % 2048 : Nat) : Int), .int .u64 ((x % 4503599627370496 : Nat) : Int)]) ∧ w = w' := by
  go_enter Try.func72, Try.ntmps72
  go_wp2
  go_ret3
  refine ⟨?_, rfl⟩
  show Ending.returned (.tuple #[.int .u64 _, .int .u64 _, .int .u64 _]) = _
  congr
end Go.Proofs.Ytlgngnkaiidbeaa
