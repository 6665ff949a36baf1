/- Contracts of real.Key, Less, Canon, of ref05's Class, Canon, Less; awake; the walks of RealClasses and RealOrder. -/
import Derived.Test.YtnndacflpmhlkaaReal
import Derived.Test.YtnndacflpmhlkaaRealHalf
import Derived.Test.YtnndacflpmhlkaaPlainReal2
import Derived.Laws.BitsAll
set_option maxRecDepth 100000
namespace Go.Proofs.Ytnndacflpmhlkaa
open Go.RowKit

theorem ret_int' {k : IntKind} {a b : Int} (h : a = b) : Ending.returned (.int k a) = .returned (.int k b) := by rw [h]
theorem ret_bool' {a b : Bool} (h : a = b) : Ending.returned (.bool a) = .returned (.bool b) := by rw [h]
theorem not64_nat (s : Nat) (hs : s < 18446744073709551616) : 18446744073709551615 ^^^ s = 18446744073709551615 - s := by
  have h : (BitVec.allOnes 64 ^^^ BitVec.ofNat 64 s).toNat = (~~~ (BitVec.ofNat 64 s)).toNat := by rw [BitVec.allOnes_xor]
  rw [BitVec.toNat_xor, BitVec.toNat_not, BitVec.toNat_allOnes, BitVec.toNat_ofNat, Nat.mod_eq_of_lt (by simpa using hs)] at h
  exact h
theorem not64 (s : Nat) (hs : s < 18446744073709551616) : bits BinOp.xor IntKind.u64 IntKind.u64.max (s : Int) = ((18446744073709551615 - s : Nat) : Int) := by
  have h := u64_xor_nat 18446744073709551615 s (by omega) hs
  rw [not64_nat s hs] at h
  exact h
theorem or_top (x : Nat) (hx : x < 9223372036854775808) : bits BinOp.or IntKind.u64 (x : Int) 9223372036854775808 = ((x + 9223372036854775808 : Nat) : Int) := by
  have h := u64_or_nat x 9223372036854775808 (by omega) (by omega)
  rw [Nat.or_comm, nat_join 63 9223372036854775808 x (by decide) hx, Nat.add_comm] at h
  exact h
theorem cls_dom {x : Nat} (hx : x < 18446744073709551616) : clsN x = 0 ∨ clsN x = 1 ∨ clsN x = 2 ∨ clsN x = 3 ∨ clsN x = 4 ∨ clsN x = 5 ∨ clsN x = 6 := by
  rcases cls_ranges hx with ⟨_, h⟩ | ⟨_, _, h⟩ | ⟨_, h⟩ | ⟨_, _, h⟩ | ⟨_, h⟩ | ⟨_, _, h⟩ | ⟨_, h⟩ | ⟨_, h⟩ <;> simp [h]

set_option maxHeartbeats 1000000 in
theorem key_calls (x : Nat) (w : World) (hx : x < 18446744073709551616) : Calls Try.prog 17 #[.int .u64 x] w fun e w' => e = .returned (.int .u64 (keyN x)) ∧ w = w' := by
  have hns : IntKind.u64.signed = false := rfl
  have HNot := Lib.hid (not64 x hx)
  have HK := Lib.hid (keyN_ranges hx)
  have HC := Lib.hid (cls_dom hx)
  go_enter Try.func17, Try.ntmps17
  go_wp2_with fail
  refine (class_calls x _ hx).mono ?_
  rintro e w' ⟨rfl, rfl⟩
  generalize hq : clsN x = q at *
  have Hq := Lib.hid hq
  clear hq
  rcases HC.out with rfl | rfl | rfl | rfl | rfl | rfl | rfl
  · go_wp2_with fail
    go_ret
    refine ⟨ret_int' ?_, rfl⟩
    have := HK.out; omega
  · go_wp2_with fail
    go_ret
    refine ⟨ret_int' (HNot.out.trans ?_), rfl⟩
    have := HK.out; omega
  · go_wp2_with fail
    go_ret
    refine ⟨ret_int' (HNot.out.trans ?_), rfl⟩
    have := HK.out; omega
  · go_wp2_with fail
    go_ret
    refine ⟨ret_int' (HNot.out.trans ?_), rfl⟩
    have := HK.out; omega
  · go_wp2_with fail
    go_ret
    refine ⟨ret_int' ((or_top x (by have := HK.out; omega)).trans ?_), rfl⟩
    have := HK.out; omega
  · go_wp2_with fail
    go_ret
    refine ⟨ret_int' ((or_top x (by have := HK.out; omega)).trans ?_), rfl⟩
    have := HK.out; omega
  · go_wp2_with fail
    go_ret
    refine ⟨ret_int' ((or_top x (by have := HK.out; omega)).trans ?_), rfl⟩
    have := HK.out; omega

theorem less_calls (a b : Nat) (w : World) (ha : a < 18446744073709551616) (hb : b < 18446744073709551616) : Calls Try.prog 16 #[.int .u64 a, .int .u64 b] w fun e w' => e = .returned (.bool (decide (keyN a < keyN b))) ∧ w = w' := by
  go_enter Try.func16, Try.ntmps16
  go_wp2_with fail
  refine (key_calls a _ ha).mono ?_
  rintro e w' ⟨rfl, rfl⟩
  go_wp2_with fail
  refine (key_calls b _ hb).mono ?_
  rintro e w' ⟨rfl, rfl⟩
  go_wp2_with fail
  go_ret
  refine ⟨ret_bool' ?_, rfl⟩
  first | rfl | (rw [Bool.eq_iff_iff]; simp)

set_option maxHeartbeats 1000000 in
theorem canon_calls (x : Nat) (w : World) (hx : x < 18446744073709551616) : Calls Try.prog 19 #[.int .u64 x] w fun e w' => e = .returned (.int .u64 (canonN x)) ∧ w = w' := by
  have HC := Lib.hid (cls_dom hx)
  have HK : Hid (canonN x = if clsN x = 0 then 9221120237041090560 else if clsN x = 3 then 0 else x) := rfl
  go_enter Try.func19, Try.ntmps19
  go_wp2_with fail
  refine (class_calls x _ hx).mono ?_
  rintro e w' ⟨rfl, rfl⟩
  generalize hq : clsN x = q at *
  clear hq
  rcases HC.out with rfl | rfl | rfl | rfl | rfl | rfl | rfl
  all_goals
    go_wp2_with fail
    go_ret
    rw [HK.out]
    exact ⟨rfl, rfl⟩

set_option maxHeartbeats 2000000 in
theorem rclass_calls (x : Nat) (w : World) (hx : x < 18446744073709551616) : Calls Try.prog 14 #[.int .u64 x] w fun e w' => e = .returned (.int .i64 (clsN x)) ∧ w = w' := by
  have HC : Hid (clsN x = if x / 4503599627370496 % 2048 = 2047 then (if x % 4503599627370496 ≠ 0 then 0 else if x / 9223372036854775808 = 1 then 1 else 6)
    else if x / 4503599627370496 % 2048 = 0 ∧ x % 4503599627370496 = 0 then (if x / 9223372036854775808 = 1 then 3 else 4)
    else if x / 9223372036854775808 = 1 then 2 else 5) := rfl
  have h1 : x / 9223372036854775808 < 2 := by omega
  have h2 : x / 4503599627370496 % 2048 < 2048 := by omega
  have h3 : x % 4503599627370496 < 4503599627370496 := by omega
  go_enter Try.func14, Try.ntmps14
  go_wp2_with fail
  refine (fields_calls x _ hx).mono ?_
  rintro e w' ⟨rfl, rfl⟩
  generalize x / 9223372036854775808 = s at *
  generalize x / 4503599627370496 % 2048 = e at *
  generalize x % 4503599627370496 = f at *
  have hs : s = 0 ∨ s = 1 := by omega
  by_cases he1 : e = 2047
  · subst he1
    by_cases hf : f = 0
    · subst hf
      rcases hs with rfl | rfl
      all_goals
        go_wp2_with fail
        go_ret
        rw [HC.out]
        exact ⟨rfl, rfl⟩
    · have hfb : ((f : Int) != 0) = true := by rw [bne_iff_ne]; omega
      have HF : Hid (clsN x = 0) := by show _ = _; rw [HC.out, if_pos rfl, if_pos hf]
      clear hf
      go_wp2_with fail
      go_ret
      rw [HF.out]
      exact ⟨rfl, rfl⟩
  · have he1b : ((e : Int) == 2047) = false := beq_eq_false_iff_ne.2 (by omega)
    by_cases he0 : e = 0
    · subst he0
      by_cases hf : f = 0
      · subst hf
        rcases hs with rfl | rfl
        all_goals
          go_wp2_with fail
          go_ret
          rw [HC.out]
          exact ⟨rfl, rfl⟩
      · have hfb : ((f : Int) == 0) = false := beq_eq_false_iff_ne.2 (by omega)
        have HF : Hid (clsN x = if s = 1 then 2 else 5) := by show _ = _; rw [HC.out, if_neg (by omega), if_neg (by omega)]
        clear hf he1
        rcases hs with rfl | rfl
        all_goals
          go_wp2_with fail
          go_ret
          rw [HF.out]
          exact ⟨rfl, rfl⟩
    · have he0b : ((e : Int) == 0) = false := beq_eq_false_iff_ne.2 (by omega)
      have HF : Hid (clsN x = if s = 1 then 2 else 5) := by show _ = _; rw [HC.out, if_neg (by omega), if_neg (by omega)]
      clear he1 he0
      rcases hs with rfl | rfl
      all_goals
        go_wp2_with fail
        go_ret
        rw [HF.out]
        exact ⟨rfl, rfl⟩

set_option maxHeartbeats 1000000 in
theorem rcanon_calls (x : Nat) (w : World) (hx : x < 18446744073709551616) : Calls Try.prog 20 #[.int .u64 x] w fun e w' => e = .returned (.int .u64 (canonN x)) ∧ w = w' := by
  have HC := Lib.hid (cls_dom hx)
  have HK : Hid (canonN x = if clsN x = 0 then 9221120237041090560 else if clsN x = 3 then 0 else x) := rfl
  have HR : Hid (∀ W, Calls Try.prog 14 #[.int .u64 x] W fun e w' => e = .returned (.int .i64 (clsN x)) ∧ W = w') := fun W => rclass_calls x W hx
  go_enter Try.func20, Try.ntmps20
  go_wp2_with fail
  refine (HR.out _).mono ?_
  rintro e w' ⟨rfl, rfl⟩
  generalize hq : clsN x = q at *
  clear hq
  rcases HC.out with rfl | rfl | rfl | rfl | rfl | rfl | rfl
  · go_wp2_with fail
    go_ret
    rw [HK.out]
    exact ⟨rfl, rfl⟩
  all_goals
    go_wp2_with fail
    refine (HR.out _).mono ?_
    rintro e w' ⟨rfl, rfl⟩
    go_wp2_with fail
    go_ret
    rw [HK.out]
    exact ⟨rfl, rfl⟩

set_option maxHeartbeats 4000000 in
theorem rless_calls (a b : Nat) (w : World) (ha : a < 18446744073709551616) (hb : b < 18446744073709551616) : Calls Try.prog 15 #[.int .u64 a, .int .u64 b] w fun e w' => e = .returned (.bool (lessN a b)) ∧ w = w' := by
  have HA := Lib.hid (cls_dom ha)
  have HB := Lib.hid (cls_dom hb)
  have HK : Hid (lessN a b = if clsN a = 0 ∨ clsN b = 0 then decide (clsN a ≠ 0 ∧ clsN b = 0) else if clsN a ≠ clsN b then decide (clsN a < clsN b) else if clsN a = 2 then decide (b < a) else decide (a < b)) := rfl
  go_enter Try.func15, Try.ntmps15
  go_wp2_with fail
  refine (rclass_calls a _ ha).mono ?_
  rintro e w' ⟨rfl, rfl⟩
  go_wp2_with fail
  refine (rclass_calls b _ hb).mono ?_
  rintro e w' ⟨rfl, rfl⟩
  generalize hp : clsN a = p at *
  generalize hq : clsN b = q at *
  clear hp hq
  have hp : 0 ≤ p ∧ p ≤ 6 := by have := HA.out; omega
  have hq : 0 ≤ q ∧ q ≤ 6 := by have := HB.out; omega
  by_cases h1 : p = 0
  · subst h1
    have HF : Hid (lessN a b = false) := by show _ = _; rw [HK.out, if_pos (.inl rfl)]; simp
    go_wp2_with fail
    go_ret
    rw [HF.out]
    exact ⟨rfl, rfl⟩
  have b1 : (p == 0) = false := by simpa using h1
  have b1' : (p != 0) = true := by simpa using h1
  by_cases h2 : q = 0
  · subst h2
    have HF : Hid (lessN a b = true) := by show _ = _; rw [HK.out, if_pos (.inr rfl)]; simp [h1]
    clear h1
    go_wp2_with fail
    go_ret
    rw [HF.out]
    exact ⟨rfl, rfl⟩
  have b2 : (q == 0) = false := by simpa using h2
  by_cases h3 : p = q
  · subst h3
    by_cases h4 : p = 2
    · subst h4
      have HF : Hid (lessN a b = decide (b < a)) := by show _ = _; rw [HK.out, if_neg (by omega), if_neg (by omega), if_pos rfl]
      clear h1 h2
      go_wp2_with fail
      go_ret
      rw [HF.out]
      refine ⟨ret_bool' ?_, rfl⟩
      first | rfl | (rw [Bool.eq_iff_iff]; simp)
    · have b4 : (p == 2) = false := by simpa using h4
      have HF : Hid (lessN a b = decide (a < b)) := by show _ = _; rw [HK.out, if_neg (by omega), if_neg (by omega), if_neg h4]
      clear h1 h2 h4
      go_wp2_with fail
      go_ret
      rw [HF.out]
      refine ⟨ret_bool' ?_, rfl⟩
      first | rfl | (rw [Bool.eq_iff_iff]; simp)
  · have b3 : (p != q) = true := by simpa using h3
    have HF : Hid (lessN a b = decide (p < q)) := by show _ = _; rw [HK.out, if_neg (by omega), if_pos h3]
    clear h1 h2 h3
    go_wp2_with fail
    go_ret
    rw [HF.out]
    exact ⟨rfl, rfl⟩

set_option maxHeartbeats 1000000 in
theorem awake05 (w : World) : Calls Try.prog 11 #[] w (RetV w (.bool true)) := by
  go_enter Try.func11, Try.ntmps11
  go_wp2_with fail
  refine (pick_half _).mono ?_
  rintro e w' ⟨rfl, rfl⟩
  go_wp2_with fail
  refine (class_calls 9218868437227405312 _ (by decide)).mono ?_
  rintro e w' ⟨rfl, rfl⟩
  rw [show clsN 9218868437227405312 = 6 from by decide +kernel]
  go_wp2_with fail
  refine (key_calls 9223372036854775808 _ (by decide)).mono ?_
  rintro e w' ⟨rfl, rfl⟩
  rw [show keyN 9223372036854775808 = 9223372036854775807 from by decide +kernel]
  go_wp2_with fail
  refine (key_calls 0 _ (by decide)).mono ?_
  rintro e w' ⟨rfl, rfl⟩
  rw [show keyN 0 = 9223372036854775808 from by decide +kernel]
  go_wp2_with fail
  go_ret
  exact ⟨rfl, Ext.refl _⟩

set_option maxHeartbeats 1000000 in
theorem realClasses_walk (x : Nat) (w : World) (hx : x < 18446744073709551616) : Calls Try.prog 5 #[.int .u64 x] w (RetV w (.bool true)) := by
  go_enter Try.func5, Try.ntmps5
  go_wp2_with fail
  refine (class_calls x _ hx).mono ?_
  rintro e w' ⟨rfl, rfl⟩
  go_wp2_with fail
  refine (rclass_calls x _ hx).mono ?_
  rintro e w' ⟨rfl, rfl⟩
  generalize clsN x = q at *
  go_wp2_with fail
  refine (canon_calls x _ hx).mono ?_
  rintro e w' ⟨rfl, rfl⟩
  go_wp2_with fail
  refine (rcanon_calls x _ hx).mono ?_
  rintro e w' ⟨rfl, rfl⟩
  generalize canonN x = r at *
  go_wp2_with fail
  refine (awake05 _).mono ?_
  rintro e w1 ⟨rfl, e1⟩
  have E1 := Lib.hid e1
  clear e1
  go_wp2_with fail
  go_ret
  exact ⟨rfl, E1.out⟩

set_option maxHeartbeats 4000000 in
theorem realOrder_walk (a b : Nat) (w : World) (ha : a < 18446744073709551616) (hb : b < 18446744073709551616) : Calls Try.prog 4 #[.int .u64 a, .int .u64 b] w (RetV w (.bool true)) := by
  have HL := Lib.hid (less_key ha hb)
  have HI := Lib.hid (key_inj ha hb)
  have ka := keyN_lt ha
  have kb := keyN_lt hb
  go_enter Try.func4, Try.ntmps4
  go_wp2_with fail
  refine (less_calls a b _ ha hb).mono ?_
  rintro e w' ⟨rfl, rfl⟩
  go_wp2_with fail
  refine (less_calls b a _ hb ha).mono ?_
  rintro e w' ⟨rfl, rfl⟩
  have HKa : Hid (∀ W, Calls Try.prog 17 #[.int .u64 a] W fun e w' => e = .returned (.int .u64 (keyN a)) ∧ W = w') := fun W => key_calls a W ha
  have HKb : Hid (∀ W, Calls Try.prog 17 #[.int .u64 b] W fun e w' => e = .returned (.int .u64 (keyN b)) ∧ W = w') := fun W => key_calls b W hb
  have HCa : Hid (∀ W, Calls Try.prog 14 #[.int .u64 a] W fun e w' => e = .returned (.int .i64 (clsN a)) ∧ W = w') := fun W => rclass_calls a W ha
  have HCb : Hid (∀ W, Calls Try.prog 14 #[.int .u64 b] W fun e w' => e = .returned (.int .i64 (clsN b)) ∧ W = w') := fun W => rclass_calls b W hb
  have HRl : Hid (∀ W, Calls Try.prog 15 #[.int .u64 a, .int .u64 b] W fun e w' => e = .returned (.bool (decide (keyN a < keyN b))) ∧ W = w') := by
    intro W
    have h := rless_calls a b W ha hb
    rw [HL.out] at h
    exact h
  generalize keyN a = p at *
  generalize keyN b = q at *
  clear HL
  by_cases hab : a = b
  · subst hab
    have hpq : p = q := HI.out.2 (.inl rfl)
    subst hpq
    have d1 : decide (p < p) = false := by simp
    clear HI
    rw [d1] at HRl
    rw [d1]
    go_wp2_with fail
    refine (HRl.out _).mono ?_
    rintro e w' ⟨rfl, rfl⟩
    go_wp2_with fail
    refine (HKa.out _).mono ?_
    rintro e w' ⟨rfl, rfl⟩
    go_wp2_with fail
    refine (HKa.out _).mono ?_
    rintro e w' ⟨rfl, rfl⟩
    go_wp2_with fail
    refine (HKa.out _).mono ?_
    rintro e w' ⟨rfl, rfl⟩
    go_wp2_with fail
    refine (HKa.out _).mono ?_
    rintro e w' ⟨rfl, rfl⟩
    go_wp2_with fail
    refine (awake05 _).mono ?_
    rintro e w1 ⟨rfl, e1⟩
    have E1 := Lib.hid e1
    clear e1
    go_wp2_with fail
    go_ret
    exact ⟨rfl, E1.out⟩
  have nab : ((a : Int) == (b : Int)) = false := beq_eq_false_iff_ne.2 (by omega)
  by_cases hnn : clsN a = 0 ∧ clsN b = 0
  · obtain ⟨na, nb⟩ := hnn
    have hpq : p = q := HI.out.2 (.inr ⟨na, nb⟩)
    subst hpq
    have d1 : decide (p < p) = false := by simp
    rw [na] at HCa
    rw [nb] at HCb
    clear HI hab na nb
    rw [d1] at HRl
    rw [d1]
    go_wp2_with fail
    refine (HCa.out _).mono ?_
    rintro e w' ⟨rfl, rfl⟩
    go_wp2_with fail
    refine (HCb.out _).mono ?_
    rintro e w' ⟨rfl, rfl⟩
    go_wp2_with fail
    refine (HRl.out _).mono ?_
    rintro e w' ⟨rfl, rfl⟩
    go_wp2_with fail
    refine (HKa.out _).mono ?_
    rintro e w' ⟨rfl, rfl⟩
    go_wp2_with fail
    refine (HKb.out _).mono ?_
    rintro e w' ⟨rfl, rfl⟩
    go_wp2_with fail
    refine (HKb.out _).mono ?_
    rintro e w' ⟨rfl, rfl⟩
    go_wp2_with fail
    refine (HKa.out _).mono ?_
    rintro e w' ⟨rfl, rfl⟩
    go_wp2_with fail
    refine (awake05 _).mono ?_
    rintro e w1 ⟨rfl, e1⟩
    have E1 := Lib.hid e1
    clear e1
    go_wp2_with fail
    go_ret
    exact ⟨rfl, E1.out⟩
  have hpq : p ≠ q := fun h => by rcases HI.out.1 h with h | h; exact hab h; exact hnn h
  have HP : Hid (decide (p < q) = !decide (q < p)) := by
    show _ = _
    rw [Bool.eq_iff_iff]; simp; omega
  clear HI hab
  rcases Nat.lt_or_ge p q with hlt | hge
  · have d1 : decide (p < q) = true := by simpa using hlt
    have d2 : decide (q < p) = false := by simp; omega
    have d3 : decide ((p : Int) < (q : Int)) = true := by simpa using hlt
    have d4 : decide ((q : Int) < (p : Int)) = false := by simp; omega
    rw [d1] at HRl
    rw [d1, d2]
    clear hpq HP hlt
    by_cases na : clsN a = 0
    · have nb : (clsN b == 0) = false := by simpa using fun h => hnn ⟨na, h⟩
      rw [na] at HCa
      clear hnn na
      generalize clsN b = cb at *
      go_wp2_with fail
      refine (HCa.out _).mono ?_
      rintro e w' ⟨rfl, rfl⟩
      go_wp2_with fail
      refine (HCb.out _).mono ?_
      rintro e w' ⟨rfl, rfl⟩
      go_wp2_with fail
      refine (HRl.out _).mono ?_
      rintro e w' ⟨rfl, rfl⟩
      go_wp2_with fail
      refine (HKa.out _).mono ?_
      rintro e w' ⟨rfl, rfl⟩
      go_wp2_with fail
      refine (HKb.out _).mono ?_
      rintro e w' ⟨rfl, rfl⟩
      go_wp2_with fail
      refine (HKb.out _).mono ?_
      rintro e w' ⟨rfl, rfl⟩
      go_wp2_with fail
      refine (HKa.out _).mono ?_
      rintro e w' ⟨rfl, rfl⟩
      go_wp2_with fail
      refine (awake05 _).mono ?_
      rintro e w1 ⟨rfl, e1⟩
      have E1 := Lib.hid e1
      clear e1
      go_wp2_with fail
      go_ret
      exact ⟨rfl, E1.out⟩
    · have na' : (clsN a == 0) = false := by simpa using na
      clear hnn na
      generalize clsN a = ca at *
      go_wp2_with fail
      refine (HCa.out _).mono ?_
      rintro e w' ⟨rfl, rfl⟩
      go_wp2_with fail
      refine (HRl.out _).mono ?_
      rintro e w' ⟨rfl, rfl⟩
      go_wp2_with fail
      refine (HKa.out _).mono ?_
      rintro e w' ⟨rfl, rfl⟩
      go_wp2_with fail
      refine (HKb.out _).mono ?_
      rintro e w' ⟨rfl, rfl⟩
      go_wp2_with fail
      refine (HKb.out _).mono ?_
      rintro e w' ⟨rfl, rfl⟩
      go_wp2_with fail
      refine (HKa.out _).mono ?_
      rintro e w' ⟨rfl, rfl⟩
      go_wp2_with fail
      refine (awake05 _).mono ?_
      rintro e w1 ⟨rfl, e1⟩
      have E1 := Lib.hid e1
      clear e1
      go_wp2_with fail
      go_ret
      exact ⟨rfl, E1.out⟩
  · have d1 : decide (p < q) = false := by simp; omega
    have d2 : decide (q < p) = true := by simp; omega
    have d3 : decide ((p : Int) < (q : Int)) = false := by simp; omega
    have d4 : decide ((q : Int) < (p : Int)) = true := by simp; omega
    rw [d1] at HRl
    rw [d1, d2]
    clear hpq HP hge
    by_cases na : clsN a = 0
    · have nb : (clsN b == 0) = false := by simpa using fun h => hnn ⟨na, h⟩
      rw [na] at HCa
      clear hnn na
      generalize clsN b = cb at *
      go_wp2_with fail
      refine (HCa.out _).mono ?_
      rintro e w' ⟨rfl, rfl⟩
      go_wp2_with fail
      refine (HCb.out _).mono ?_
      rintro e w' ⟨rfl, rfl⟩
      go_wp2_with fail
      refine (HRl.out _).mono ?_
      rintro e w' ⟨rfl, rfl⟩
      go_wp2_with fail
      refine (HKa.out _).mono ?_
      rintro e w' ⟨rfl, rfl⟩
      go_wp2_with fail
      refine (HKb.out _).mono ?_
      rintro e w' ⟨rfl, rfl⟩
      go_wp2_with fail
      refine (HKb.out _).mono ?_
      rintro e w' ⟨rfl, rfl⟩
      go_wp2_with fail
      refine (HKa.out _).mono ?_
      rintro e w' ⟨rfl, rfl⟩
      go_wp2_with fail
      refine (awake05 _).mono ?_
      rintro e w1 ⟨rfl, e1⟩
      have E1 := Lib.hid e1
      clear e1
      go_wp2_with fail
      go_ret
      exact ⟨rfl, E1.out⟩
    · have na' : (clsN a == 0) = false := by simpa using na
      clear hnn na
      generalize clsN a = ca at *
      go_wp2_with fail
      refine (HCa.out _).mono ?_
      rintro e w' ⟨rfl, rfl⟩
      go_wp2_with fail
      refine (HRl.out _).mono ?_
      rintro e w' ⟨rfl, rfl⟩
      go_wp2_with fail
      refine (HKa.out _).mono ?_
      rintro e w' ⟨rfl, rfl⟩
      go_wp2_with fail
      refine (HKb.out _).mono ?_
      rintro e w' ⟨rfl, rfl⟩
      go_wp2_with fail
      refine (HKb.out _).mono ?_
      rintro e w' ⟨rfl, rfl⟩
      go_wp2_with fail
      refine (HKa.out _).mono ?_
      rintro e w' ⟨rfl, rfl⟩
      go_wp2_with fail
      refine (awake05 _).mono ?_
      rintro e w1 ⟨rfl, e1⟩
      have E1 := Lib.hid e1
      clear e1
      go_wp2_with fail
      go_ret
      exact ⟨rfl, E1.out⟩
end Go.Proofs.Ytnndacflpmhlkaa
