/- Contracts of real.Canon, of ref05's Class and Canon. -/
import Derived.Test.YtlgngnkaiidbeaaReal
import Derived.Test.YtlgngnkaiidbeaaPlainReal2
import Derived.Laws.BitsAll
set_option maxRecDepth 100000
set_option linter.unusedVariables false
set_option linter.unusedSimpArgs false
namespace Go.Proofs.Ytlgngnkaiidbeaa
open Go.RowKit
theorem ret_int' {k : IntKind} {a b : Int} (h : a = b) : Ending.returned (.int k a) = .returned (.int k b) := by rw [h]
theorem ret_bool' {a b : Bool} (h : a = b) : Ending.returned (.bool a) = .returned (.bool b) := by rw [h]
theorem not64_nat (s : Nat) (hs : s < 18446744073709551616) : 18446744073709551615 ^^^ s = 18446744073709551615 - s := by
  have h : (BitVec.allOnes 64 ^^^ BitVec.ofNat 64 s).toNat = (~~~ (BitVec.ofNat 64 s)).toNat := by rw [BitVec.allOnes_xor]
  rw [BitVec.toNat_xor, BitVec.toNat_not, BitVec.toNat_allOnes, BitVec.toNat_ofNat, Nat.mod_eq_of_lt (by simpa using hs)] at h
  exact h
theorem not64 (s : Nat) (hs : s < 18446744073709551616) : bits BinOp.xor IntKind.u64 IntKind.u64.max (s : Int) = ((18446744073709551615 - s : Nat) : Int) := by
  have h := u64_xor_nat 18446744073709551615 s (by omega) hs
  rw [not64_nat s hs] at h
  exact h
theorem or_top (x : Nat) (hx : x < 9223372036854775808) : bits BinOp.or IntKind.u64 (x : Int) 9223372036854775808 = ((x + 9223372036854775808 : Nat) : Int) := by
  have h := u64_or_nat x 9223372036854775808 (by omega) (by omega)
  rw [Nat.or_comm, nat_join 63 9223372036854775808 x (by decide) hx, Nat.add_comm] at h
  exact h
theorem cls_dom {x : Nat} (hx : x < 18446744073709551616) : clsN x = 0 ∨ clsN x = 1 ∨ clsN x = 2 ∨ clsN x = 3 ∨ clsN x = 4 ∨ clsN x = 5 ∨ clsN x = 6 := by
  rcases cls_ranges hx with ⟨_, h⟩ | ⟨_, _, h⟩ | ⟨_, h⟩ | ⟨_, _, h⟩ | ⟨_, h⟩ | ⟨_, _, h⟩ | ⟨_, h⟩ | ⟨_, h⟩ <;> simp [h]

set_option maxHeartbeats 2000000 in
theorem rclass_calls (x : Nat) (w : World) (hx : x < 18446744073709551616) : Calls Try.prog 27 #[.int .u64 x] w fun e w' => e = .returned (.int .i64 (clsN x)) ∧ w = w' := by
  have HC : Hid (clsN x = if x / 4503599627370496 % 2048 = 2047 then (if x % 4503599627370496 ≠ 0 then 0 else if x / 9223372036854775808 = 1 then 1 else 6)
    else if x / 4503599627370496 % 2048 = 0 ∧ x % 4503599627370496 = 0 then (if x / 9223372036854775808 = 1 then 3 else 4)
    else if x / 9223372036854775808 = 1 then 2 else 5) := rfl
  have h1 : x / 9223372036854775808 < 2 := by omega
  have h2 : x / 4503599627370496 % 2048 < 2048 := by omega
  have h3 : x % 4503599627370496 < 4503599627370496 := by omega
  go_enter Try.func27, Try.ntmps27
  go_wp2_with fail
  refine (fields_calls x _ hx).mono ?_
  rintro e w' ⟨rfl, rfl⟩
  generalize x / 9223372036854775808 = s at *
  generalize x / 4503599627370496 % 2048 = e at *
  generalize x % 4503599627370496 = f at *
  have hs : s = 0 ∨ s = 1 := by omega
  by_cases he1 : e = 2047
  · subst he1
    by_cases hf : f = 0
    · subst hf
      rcases hs with rfl | rfl
      all_goals
        go_wp2_with fail
        go_ret
        rw [HC.out]
        exact ⟨rfl, rfl⟩
    · have hfb : ((f : Int) != 0) = true := by rw [bne_iff_ne]; omega
      have HF : Hid (clsN x = 0) := by show _ = _; rw [HC.out, if_pos rfl, if_pos hf]
      clear hf
      go_wp2_with fail
      go_ret
      rw [HF.out]
      exact ⟨rfl, rfl⟩
  · have he1b : ((e : Int) == 2047) = false := beq_eq_false_iff_ne.2 (by omega)
    by_cases he0 : e = 0
    · subst he0
      by_cases hf : f = 0
      · subst hf
        rcases hs with rfl | rfl
        all_goals
          go_wp2_with fail
          go_ret
          rw [HC.out]
          exact ⟨rfl, rfl⟩
      · have hfb : ((f : Int) == 0) = false := beq_eq_false_iff_ne.2 (by omega)
        have HF : Hid (clsN x = if s = 1 then 2 else 5) := by show _ = _; rw [HC.out, if_neg (by omega), if_neg (by omega)]
        clear hf he1
        rcases hs with rfl | rfl
        all_goals
          go_wp2_with fail
          go_ret
          rw [HF.out]
          exact ⟨rfl, rfl⟩
    · have he0b : ((e : Int) == 0) = false := beq_eq_false_iff_ne.2 (by omega)
      have HF : Hid (clsN x = if s = 1 then 2 else 5) := by show _ = _; rw [HC.out, if_neg (by omega), if_neg (by omega)]
      clear he1 he0
      rcases hs with rfl | rfl
      all_goals
        go_wp2_with fail
        go_ret
        rw [HF.out]
        exact ⟨rfl, rfl⟩

end Go.Proofs.Ytlgngnkaiidbeaa
