/- math.Ldexp of a number between nothing and one, by 53; real.Pick. -/
import Derived.Test.YtlgngnkaiidbeaaRealC
import Derived.Test.YtlgngnkaiidbeaaPlainPick2
import Derived.Test.YtlgngnkaiidbeaaShelf
import Derived.Laws.BitsAll
import Derived.Laws.FloatArith
set_option maxRecDepth 100000
set_option exponentiation.threshold 3000
set_option linter.unusedVariables false
set_option linter.unusedSimpArgs false
namespace Go.Proofs.Ytlgngnkaiidbeaa
open Go.RowKit

theorem and_frac {y : Nat} (hy : y < 9223372036854775808) : bits BinOp.andNot IntKind.u64 (y : Int) 9218868437227405312 = ((y % 4503599627370496 : Nat) : Int) := by
  have h := u64_andNot_nat y 9218868437227405312 (by omega) (by omega)
  have z : y &&& 2 ^ 63 = 0 := by
    apply Nat.eq_of_testBit_eq
    intro i
    rw [Nat.testBit_and, Nat.testBit_two_pow, Nat.zero_testBit]
    by_cases h : 63 = i
    · subst h; rw [Nat.testBit_lt_two_pow (by omega)]; rfl
    · simp [h]
  have e : y &&& (18446744073709551615 - 9218868437227405312) = y % 4503599627370496 := by
    rw [show 18446744073709551615 - 9218868437227405312 = 2 ^ 63 ||| (2 ^ 52 - 1) by decide, Nat.and_or_distrib_left, Nat.and_two_pow_sub_one_eq_mod, z, Nat.zero_or]
  rw [e] at h
  exact h
theorem or_exp {r e : Nat} (hr : r < 4503599627370496) (he : e ≤ 2046) : bits BinOp.or IntKind.u64 (r : Int) (((e * 4503599627370496 : Nat)) : Int) = ((e * 4503599627370496 + r : Nat) : Int) := by
  have h := u64_or_nat r (e * 4503599627370496) (by omega) (by omega)
  have h2 := Nat.two_pow_add_eq_or_of_lt (i := 52) (b := r) (by omega) e
  rw [h, Nat.or_comm, show e * 4503599627370496 = 2 ^ 52 * e by omega, ← h2]
theorem and_exp (n : Int) (h0 : 0 ≤ n) (h1 : n < 2048) : bits BinOp.and IntKind.i64 n 2047 = n := by
  have h127 : (BitVec.ofInt 64 2047).toNat = 2 ^ 11 - 1 := by decide
  have key : (BitVec.ofInt 64 n &&& BitVec.ofInt 64 2047).toNat = (n % ((2 ^ 64 : Nat) : Int)).toNat % 2 ^ 11 := by
    rw [BitVec.toNat_and, BitVec.toNat_ofInt, h127, Nat.and_two_pow_sub_one_eq_mod]
  show IntKind.i64.wrap ((BitVec.ofInt 64 n &&& BitVec.ofInt 64 2047).toNat : Nat) = n
  rw [key, IntKind.wrap_i64]
  omega
theorem abs_bitsP (x : Nat) (hx : x < 18446744073709551616) : bits BinOp.andNot IntKind.u64 (x : Int) 9223372036854775808 = ((x % 9223372036854775808 : Nat) : Int) := by
  have h := u64_andNot_nat x 9223372036854775808 hx (by omega)
  rw [show 18446744073709551615 - 9223372036854775808 = 2 ^ 63 - 1 by decide, Nat.and_two_pow_sub_one_eq_mod] at h
  exact h
/-- what Ldexp by 53 gives -/
def ldN (x : Nat) : Nat := if x < 4503599627370496 then x.log2 * 4503599627370496 + x * 2 ^ (52 - x.log2) + 4503599627370496 else x + 53 * 4503599627370496

set_option maxHeartbeats 2000000 in
theorem ldexp_norm (x : Nat) (w : World) (h0 : 4503599627370496 ≤ x) (h1 : x < 4607182418800017408) : Calls Try.prog 102 #[.float .f64 x, .int .i64 53] w fun e w' => e = .returned (.float .f64 (x + 53 * 4503599627370496)) ∧ w = w' := by
  have o1 : (FloatKind.f64.format.order x 0 == some .eq) = false := by
    show (Ieee.double.order x 0 == some .eq) = false
    rw [ord_pos (by omega) (by omega), Nat.compare_eq_gt.2 (by omega)]; rfl
  have o2 : (FloatKind.f64.format.order x 9218868437227405311 == some .gt) = false := by
    show (Ieee.double.order x _ == some .gt) = false
    rw [ord_pos (by omega) (by omega), Nat.compare_eq_lt.2 (by omega)]; rfl
  have o3 : (FloatKind.f64.format.order x x != some .eq) = false := by
    show (Ieee.double.order x x != some .eq) = false
    rw [ord_pos (by omega) (by omega), Nat.compare_eq_eq.2 rfl]; rfl
  have o4 : (FloatKind.f64.format.order x 4503599627370496 == some .lt) = false := by
    show (Ieee.double.order x _ == some .lt) = false
    rw [ord_pos (by omega) (by omega)]
    rcases Nat.eq_or_lt_of_le h0 with h | h
    · rw [Nat.compare_eq_eq.2 h.symm]; rfl
    · rw [Nat.compare_eq_gt.2 h]; rfl
  have hb : ∀ w, (callFunc 128 #[.float .f64 x]).run Try.prog w = .ok (.value (.int .u64 (x : Int))) w := fun w => run_bits x w
  have hm : ∀ w, (binOp .mul 109 (.float .f64 4607182418800017408) (.float .f64 (x + 53 * 4503599627370496))).run Try.prog w = .ok (.float .f64 (x + 53 * 4503599627370496)) w := fun w => run_float_arith w .mul _ .f64 _ _ _ (mul_one' (by omega) (by omega))
  have ha : bits BinOp.andNot IntKind.u64 (x : Int) 9223372036854775808 = (x : Int) := by
    have := abs_bitsP x (by omega)
    rw [Nat.mod_eq_of_lt (by omega)] at this
    exact this
  have hf : ∀ w, (callFunc 68 #[.int .u64 (x : Int)]).run Try.prog w = .ok (.value (.float .f64 x)) w := fun w => run_frombits x w
  have b3 := and_frac (y := x) (by omega)
  obtain ⟨q, r, hx, hr, hq0, hq⟩ : ∃ q r : Nat, x = q * 4503599627370496 + r ∧ r < 4503599627370496 ∧ 1 ≤ q ∧ q ≤ 1022 := ⟨x / 4503599627370496, x % 4503599627370496, by omega, by omega, by omega, by omega⟩
  have d1 : (x : Int) / 4503599627370496 = q := by omega
  rw [show x % 4503599627370496 = r by omega] at b3
  have b2 := and_exp (q : Int) (by omega) (by omega)
  have w3 : 53 + ((q : Int) - 1023) + 1023 = (q : Int) + 53 := by omega
  have b4 : bits BinOp.or IntKind.u64 (r : Int) (((q : Int) + 53) * 4503599627370496) = ((x + 53 * 4503599627370496 : Nat) : Int) := by
    have := or_exp (r := r) (e := q + 53) hr (by omega)
    rw [show (((q : Int) + 53) * 4503599627370496) = (((q + 53) * 4503599627370496 : Nat) : Int) by omega, this]
    omega
  have hf2 : ∀ w, (callFunc 68 #[.int .u64 ((x + 53 * 4503599627370496 : Nat) : Int)]).run Try.prog w = .ok (.value (.float .f64 (x + 53 * 4503599627370496))) w := fun w => run_frombits _ w
  generalize x + 53 * 4503599627370496 = y at *
  clear hx h0 h1
  go_enter Try.func102, Try.ntmps102
  go_wp2
  go_ret
  exact ⟨rfl, rfl⟩
set_option maxHeartbeats 2000000 in
theorem ldexp_sub (x : Nat) (w : World) (h0 : 0 < x) (h1 : x < 4503599627370496) : Calls Try.prog 102 #[.float .f64 x, .int .i64 53] w fun e w' => e = .returned (.float .f64 (x.log2 * 4503599627370496 + x * 2 ^ (52 - x.log2) + 4503599627370496)) ∧ w = w' := by
  obtain ⟨s1, s2, s3, s4⟩ := mul_small h0 h1
  obtain ⟨z, hz⟩ : ∃ z, z = x.log2 * 4503599627370496 + x * 2 ^ (52 - x.log2) := ⟨_, rfl⟩
  rw [← hz] at s1 ⊢
  have s5 : 4503599627370496 ≤ z ∧ z < 60 * 4503599627370496 := by omega
  have o1 : (FloatKind.f64.format.order x 0 == some .eq) = false := by
    show (Ieee.double.order x 0 == some .eq) = false
    rw [ord_pos (by omega) (by omega), Nat.compare_eq_gt.2 (by omega)]; rfl
  have o2 : (FloatKind.f64.format.order x 9218868437227405311 == some .gt) = false := by
    show (Ieee.double.order x _ == some .gt) = false
    rw [ord_pos (by omega) (by omega), Nat.compare_eq_lt.2 (by omega)]; rfl
  have o3 : (FloatKind.f64.format.order x x != some .eq) = false := by
    show (Ieee.double.order x x != some .eq) = false
    rw [ord_pos (by omega) (by omega), Nat.compare_eq_eq.2 rfl]; rfl
  have o4 : (FloatKind.f64.format.order x 4503599627370496 == some .lt) = true := by
    show (Ieee.double.order x _ == some .lt) = true
    rw [ord_pos (by omega) (by omega), Nat.compare_eq_lt.2 h1]; rfl
  have hn : ∀ w, (binOp .mul 109 (.float .f64 x) (.float .f64 4841369599423283200)).run Try.prog w = .ok (.float .f64 z) w := fun w => run_float_arith w .mul _ .f64 _ _ _ s1
  have hb : ∀ w, (callFunc 128 #[.float .f64 x]).run Try.prog w = .ok (.value (.int .u64 (x : Int))) w := fun w => run_bits x w
  have hbz : ∀ w, (callFunc 128 #[.float .f64 z]).run Try.prog w = .ok (.value (.int .u64 (z : Int))) w := fun w => run_bits z w
  have hm : ∀ w, (binOp .mul 109 (.float .f64 4607182418800017408) (.float .f64 (z + 4503599627370496))).run Try.prog w = .ok (.float .f64 (z + 4503599627370496)) w := fun w => run_float_arith w .mul _ .f64 _ _ _ (mul_one' (by omega) (by omega))
  have ha : bits BinOp.andNot IntKind.u64 (x : Int) 9223372036854775808 = (x : Int) := by
    have := abs_bitsP x (by omega)
    rw [Nat.mod_eq_of_lt (by omega)] at this
    exact this
  have hf : ∀ w, (callFunc 68 #[.int .u64 (x : Int)]).run Try.prog w = .ok (.value (.float .f64 x)) w := fun w => run_frombits x w
  have b3 := and_frac (y := z) (by omega)
  clear s1 s2 s3 s4 hz
  obtain ⟨q, r, hx, hr, hq0, hq⟩ : ∃ q r : Nat, z = q * 4503599627370496 + r ∧ r < 4503599627370496 ∧ 1 ≤ q ∧ q ≤ 60 := ⟨z / 4503599627370496, z % 4503599627370496, by omega, by omega, by omega, by omega⟩
  have d1 : (z : Int) / 4503599627370496 = q := by omega
  rw [show z % 4503599627370496 = r by omega] at b3
  have b2 := and_exp (q : Int) (by omega) (by omega)
  have w3 : 1 + ((q : Int) - 1023) + 1023 = (q : Int) + 1 := by omega
  have b4 : bits BinOp.or IntKind.u64 (r : Int) (((q : Int) + 1) * 4503599627370496) = ((z + 4503599627370496 : Nat) : Int) := by
    have := or_exp (r := r) (e := q + 1) hr (by omega)
    rw [show (((q : Int) + 1) * 4503599627370496) = (((q + 1) * 4503599627370496 : Nat) : Int) by omega, this]
    omega
  have hf2 : ∀ w, (callFunc 68 #[.int .u64 ((z + 4503599627370496 : Nat) : Int)]).run Try.prog w = .ok (.value (.float .f64 (z + 4503599627370496))) w := fun w => run_frombits _ w
  generalize z + 4503599627370496 = y at *
  clear hx h0 h1 s5
  go_enter Try.func102, Try.ntmps102
  go_wp2
  go_ret
  exact ⟨rfl, rfl⟩

theorem Ldexp_calls (x : Nat) (w : World) (h0 : 0 < x) (h1 : x < 4607182418800017408) : Calls Try.prog 70 #[.float .f64 x, .int .i64 53] w fun e w' => e = .returned (.float .f64 (ldN x)) ∧ w = w' := by
  by_cases h : x < 4503599627370496
  · have e : Hid (ldN x = x.log2 * 4503599627370496 + x * 2 ^ (52 - x.log2) + 4503599627370496) := if_pos h
    go_enter Try.func70, Try.ntmps70
    go_wp2_with fail
    refine (ldexp_sub x _ h0 h).mono ?_
    rintro e w' ⟨rfl, rfl⟩
    rw [← e.out]
    go_wp2_with fail
    go_ret
    exact ⟨rfl, rfl⟩
  · have e : Hid (ldN x = x + 53 * 4503599627370496) := if_neg h
    go_enter Try.func70, Try.ntmps70
    go_wp2_with fail
    refine (ldexp_norm x _ (by omega) h1).mono ?_
    rintro e w' ⟨rfl, rfl⟩
    rw [← e.out]
    go_wp2_with fail
    go_ret
    exact ⟨rfl, rfl⟩

theorem ld_int {x : Nat} (h5 : clsN x = 5) (h0 : 0 < x) (h1 : x < 4607182418800017408) : ldN x < 9218868437227405312 ∧ (Ieee.double.read (ldN x)).toInt .zero = some ((kN x : Nat) : Int) := by
  by_cases h : x < 4503599627370496
  · have e : ldN x = x.log2 * 4503599627370496 + x * 2 ^ (52 - x.log2) + 4503599627370496 := if_pos h
    obtain ⟨s1, s2, s3, s4⟩ := mul_small h0 h
    rw [e, kN_small h5 h]
    clear s1 e
    generalize x.log2 = L at *
    generalize x * 2 ^ (52 - L) = M at *
    have hy : L * 4503599627370496 + M + 4503599627370496 < 9218868437227405312 := by omega
    obtain ⟨m, a, e1, e2, e3, e4, e5⟩ := rd_pos hy
    have ha : a = L + 1 := by omega
    refine ⟨hy, ?_⟩
    rw [to_int hy e1 (by omega), Nat.div_eq_of_lt]
    have : (2 : Nat) ^ 53 ≤ 2 ^ (1074 - a) := Nat.pow_le_pow_right (by omega) (by omega)
    have e : (2 : Nat) ^ 53 = 9007199254740992 := by decide
    omega
  · have e : ldN x = x + 53 * 4503599627370496 := if_neg h
    have e0 := mant_split x
    obtain ⟨m1, m2, m3⟩ := mant_rng (cls5 (by omega) h5).1 (cls5 (by omega) h5).2
    have e9 : 4503599627370496 ≤ mantN x := by unfold mantN; split <;> omega
    have hy : x + 53 * 4503599627370496 < 9218868437227405312 := by omega
    obtain ⟨m, a, e1, e2, e3, e4, e5⟩ := rd_pos hy
    have ha : a = plN x + 53 := by omega
    have hm : m = mantN x := by omega
    rw [e]
    refine ⟨hy, ?_⟩
    rw [to_int hy e1 (by omega), kN_prog h5 (by omega), ha, hm, show 1074 - (plN x + 53) = 1021 - plN x by omega]
theorem or_join {H l : Nat} (hH : H < 4503599627370496) (hl : l < 2048) : bits BinOp.or IntKind.u64 ((H : Int) * 2048) (l : Int) = ((H * 2048 + l : Nat) : Int) := by
  have h := u64_or_nat (H * 2048) l (by omega) (by omega)
  have h2 := Nat.two_pow_add_eq_or_of_lt (i := 11) (b := l) (by omega) H
  rw [show ((H : Int) * 2048) = ((H * 2048 : Nat) : Int) by omega, h, show H * 2048 = 2 ^ 11 * H by omega, ← h2]

set_option maxHeartbeats 2000000 in
theorem pick_calls (x : Nat) (n : Int) (w : World) (hx : x < 18446744073709551616) (hn : n < 9223372036854775808) (hn0 : -9223372036854775808 ≤ n) : Calls Try.prog 25 #[.int .u64 x, .int .i64 n] w fun e w' => e = .returned (.int .i64 (pickN x n)) ∧ w = w' := by
  by_cases h1 : n < 1
  · have E : Hid (pickN x n = -1) := if_pos h1
    go_enter Try.func25, Try.ntmps25
    go_wp2_with fail
    go_ret
    exact ⟨congrArg (fun v => Ending.returned (.int .i64 v)) E.out.symm, rfl⟩
  by_cases h6 : clsN x = 6
  · have E : Hid (pickN x n = n - 1) := by show _ = _; unfold pickN; rw [if_neg h1, if_pos h6]
    have H6 := Lib.hid h6
    go_enter Try.func25, Try.ntmps25
    go_wp2_with fail
    refine (class_calls x _ hx).mono ?_
    rintro e w' ⟨rfl, rfl⟩
    rw [H6.out]
    go_wp2_with fail
    go_ret
    exact ⟨congrArg (fun v => Ending.returned (.int .i64 v)) E.out.symm, rfl⟩
  by_cases h5 : clsN x = 5
  · have H5 := Lib.hid h5
    obtain ⟨g0, g1⟩ := cls5 hx h5
    have hf : ∀ w, (callFunc 68 #[.int .u64 (x : Int)]).run Try.prog w = .ok (.value (.float .f64 x)) w := fun w => run_frombits x w
    by_cases hb : 4607182418800017408 ≤ x
    · have E : Hid (pickN x n = n - 1) := by show _ = _; unfold pickN; rw [if_neg h1, if_neg h6, if_pos h5, if_pos hb]
      have o1 : (FloatKind.f64.format.order x 4607182418800017408 == some .gt || FloatKind.f64.format.order x 4607182418800017408 == some .eq) = true := by
        show (Ieee.double.order x _ == some .gt || Ieee.double.order x _ == some .eq) = true
        rw [ord_pos (by omega) (by omega)]
        rcases Nat.eq_or_lt_of_le hb with h | h
        · rw [Nat.compare_eq_eq.2 h.symm]; rfl
        · rw [Nat.compare_eq_gt.2 h]; rfl
      go_enter Try.func25, Try.ntmps25
      go_wp2_with fail
      refine (class_calls x _ hx).mono ?_
      rintro e w' ⟨rfl, rfl⟩
      rw [H5.out]
      go_wp2_with fail
      go_ret
      exact ⟨congrArg (fun v => Ending.returned (.int .i64 v)) E.out.symm, rfl⟩
    · have E : Hid (pickN x n = ((kN x * n.toNat / 9007199254740992 : Nat) : Int)) := by show _ = _; unfold pickN; rw [if_neg h1, if_neg h6, if_pos h5, if_neg hb]
      have o1 : (FloatKind.f64.format.order x 4607182418800017408 == some .gt || FloatKind.f64.format.order x 4607182418800017408 == some .eq) = false := by
        show (Ieee.double.order x _ == some .gt || Ieee.double.order x _ == some .eq) = false
        rw [ord_pos (by omega) (by omega), Nat.compare_eq_lt.2 (by omega)]; rfl
      have hk := kN_lt (by omega) h5
      have hi := ld_int h5 (by omega) (by omega)
      have hfi : floatToIntVal .f64 (ldN x) .u64 = some ((kN x : Nat) : Int) := by
        unfold floatToIntVal
        rw [show (FloatKind.f64.decode (ldN x)).toInt .zero = some ((kN x : Nat) : Int) from hi.2]
        refine if_pos ⟨?_, ?_⟩
        · show (0 : Int) ≤ _; omega
        · show _ ≤ (18446744073709551615 : Int); omega
      obtain ⟨N, rfl⟩ : ∃ N : Nat, n = (N : Int) := ⟨n.toNat, by omega⟩
      have hcv : ∀ w, (convert 109 26 (.float .f64 (ldN x))).run Try.prog w = .ok (.int .u64 (kN x : Nat)) w := fun w => run_convert_float_int w _ _ .f64 .u64 _ _ (by kernel_rfl) Try.underlying26 hfi
      have E2 : Hid (pickN x (N : Int) = ((kN x * N / 18446744073709551616 * 2048 + kN x * N % 18446744073709551616 / 9007199254740992 : Nat) : Int)) := by
        show _ = _
        rw [E.out, Int.toNat_natCast]
        congr 1
        omega
      have hP : kN x * N < 9007199254740992 * 9223372036854775808 := by
        rcases Nat.eq_zero_or_pos N with h | h
        · subst h; simp
        · exact Nat.lt_of_lt_of_le (Nat.mul_lt_mul_of_pos_right hk h) (Nat.mul_le_mul_left _ (by omega))
      have hH : kN x * N / 18446744073709551616 < 4503599627370496 := by omega
      have hL : kN x * N % 18446744073709551616 < 18446744073709551616 := by omega
      have HLd : Hid (∀ W, Calls Try.prog 70 #[.float .f64 x, .int .i64 53] W fun e w' => e = .returned (.float .f64 (ldN x)) ∧ W = w') := fun W => Ldexp_calls x W (by omega) (by omega)
      have HMul : Hid (∀ W, Calls Try.prog 69 #[.int .u64 (kN x : Nat), .int .u64 (N : Int)] W fun e w' => e = .returned (.tuple #[.int .u64 ((kN x * N / 18446744073709551616 : Nat) : Int), .int .u64 ((kN x * N % 18446744073709551616 : Nat) : Int)]) ∧ w' = W) := fun W => Try.bits_Mul64 (kN x) N (by omega) (by omega) W
      clear E hi hP hfi
      generalize kN x * N / 18446744073709551616 = H at *
      generalize kN x * N % 18446744073709551616 = L at *
      have b5 := or_join (H := H) (l := L / 9007199254740992) hH (by omega)
      rw [show ((L / 9007199254740992 : Nat) : Int) = (L : Int) / 9007199254740992 from rfl] at b5
      have hr : H * 2048 + L / 9007199254740992 < 9223372036854775808 := by omega
      rw [E2.out]
      generalize H * 2048 + L / 9007199254740992 = R at *
      clear E2
      generalize kN x = k at *
      generalize ldN x = y at *
      go_enter Try.func25, Try.ntmps25
      go_wp2_with fail
      refine (class_calls x _ hx).mono ?_
      rintro e w' ⟨rfl, rfl⟩
      rw [H5.out]
      go_wp2_with fail
      refine (HLd.out _).mono ?_
      rintro e w' ⟨rfl, rfl⟩
      go_wp2_with fail
      refine (HMul.out _).mono ?_
      rintro e w' ⟨rfl, rfl⟩
      go_wp2_with fail
      go_ret
      exact ⟨rfl, rfl⟩
  · have E : Hid (pickN x n = 0) := by show _ = _; unfold pickN; rw [if_neg h1, if_neg h6, if_neg h5]
    have HN : Hid (clsN x ≠ 5 ∧ clsN x ≠ 6) := ⟨h5, h6⟩
    go_enter Try.func25, Try.ntmps25
    go_wp2_with fail
    refine (class_calls x _ hx).mono ?_
    rintro e w' ⟨rfl, rfl⟩
    generalize clsN x = c at *
    obtain ⟨n5, n6⟩ := HN.out
    go_wp2_with fail
    go_ret
    exact ⟨congrArg (fun v => Ending.returned (.int .i64 v)) E.out.symm, rfl⟩
end Go.Proofs.Ytlgngnkaiidbeaa
