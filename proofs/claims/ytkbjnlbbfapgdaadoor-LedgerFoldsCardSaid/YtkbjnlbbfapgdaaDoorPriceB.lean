/- Contracts of ref05.Parts, price.Due, Add, Over, ref06.Add; awake; the walks of PriceAdds, RealParts. -/
import Derived.Test.YtkbjnlbbfapgdaaDoorPriceA
import Derived.Test.YtkbjnlbbfapgdaaDoorReal2
set_option maxRecDepth 100000
set_option exponentiation.threshold 3000
set_option linter.unusedVariables false
set_option linter.unusedSimpArgs false
namespace Go.Proofs.YtkbjnlbbfapgdaaDoor
open Go.RowKit

set_option maxHeartbeats 1000000 in
theorem rparts_calls (x : Nat) (w : World) (hx : x < 18446744073709551616) : Calls Tryd.prog 91 #[.int .u64 x] w fun e w' => e = .returned (.tuple #[.int .u64 (prM x), .int .i64 (prE x), .bool (prB x)]) ∧ w = w' := by
  by_cases h5 : clsN x = 5
  · obtain ⟨g0, g1⟩ := cls5 hx h5
    obtain ⟨m1, m2, m3⟩ := mant_rng g0 g1
    obtain ⟨ht, t2, t3⟩ := tzF_spec 64 (mantN x) m1 (by omega)
    have HM : Hid (prM x = mantN x / 2 ^ tzF 64 (mantN x)) := if_pos h5
    have HE : Hid (prE x = -1074 + (plN x : Int) + (tzF 64 (mantN x) : Int)) := if_pos h5
    have HB : Hid (prB x = true) := decide_eq_true (by omega)
    have HC := Lib.hid h5
    have HMD : Hid (mantN x = if x / 4503599627370496 = 0 then x else x % 4503599627370496 + 4503599627370496) := rfl
    have HPD : Hid (plN x = x / 4503599627370496 - 1) := rfl
    have HU : Hid (∀ j f, f % 2 = 1 → 2 ^ j * f = mantN x → j = tzF 64 (mantN x) ∧ f = mantN x / 2 ^ tzF 64 (mantN x)) := fun j f h1 h2 => odd_pow_unique _ _ _ _ h1 t2 (h2.trans t3)
    clear t2 t3 h5
    generalize mantN x / 2 ^ tzF 64 (mantN x) = m at *
    generalize tzF 64 (mantN x) = t at *
    have hmod : x / 4503599627370496 % 2048 = x / 4503599627370496 := by omega
    have HX : Hid (x = x / 4503599627370496 * 4503599627370496 + x % 4503599627370496) := by show _ = _; omega
    have hr : x % 4503599627370496 < 4503599627370496 := by omega
    have hq : x / 4503599627370496 < 2047 := by omega
    have HJ : Hid (∀ j f, 2 ^ j * f = mantN x → j ≤ 60) := by
      intro j f e
      rcases Nat.lt_or_ge 60 j with a | a
      · have h1 : 2 ^ 61 ≤ 2 ^ j := Nat.pow_le_pow_right (by omega) a
        have h2 : 0 < f := by
          rcases Nat.eq_zero_or_pos f with h | h
          · subst h; omega
          · exact h
        have h3 : 2 ^ j * 1 ≤ 2 ^ j * f := Nat.mul_le_mul_left _ h2
        rw [show (2 : Nat) ^ 61 = 2305843009213693952 by decide] at h1
        omega
      · exact a
    go_enter Tryd.func91, Tryd.ntmps91
    go_wp2_with fail
    refine (rclass_calls x _ hx).mono ?_
    rintro e w' ⟨rfl, rfl⟩
    rw [HC.out]
    go_wp2_with fail
    refine (fields_calls x _ hx).mono ?_
    rintro e w' ⟨rfl, rfl⟩
    rw [hmod]
    generalize x % 4503599627370496 = r at *
    generalize x / 4503599627370496 = q at *
    have q1 : IntKind.i64.wrap (q : Int) = (q : Int) := IntWalk.i64_in _ (by omega)
    by_cases hz : q = 0
    · have hmr : mantN x = r := by have := HMD.out; rw [if_pos hz] at this; have := HX.out; omega
      have HPL : Hid (plN x = 0) := by show _ = _; have := HPD.out; omega
      subst hz
      clear HMD HPD HX
      go_wp2_with fail
      go_loop [8, 9] (fun f p => ∃ j F : Nat, f = .int .u64 F ∧ p = .int .i64 (-1074 + (plN x : Int) + j) ∧ 2 ^ j * F = mantN x ∧ F < 9007199254740992) (fun f _ => (intOf f).toNat)
      case atStart => exact ⟨0, r, rfl, by rw [HPL.out]; rfl, by rw [hmr]; simp, by omega⟩
      case round =>
        obtain ⟨j, F, rfl, rfl, hj, hF⟩ := hrel
        have hj60 := HJ.out j F hj
        have HJF := Lib.hid hj
        have hF0 : 0 < F := by
          rcases Nat.eq_zero_or_pos F with h | h
          · subst h; simp at hj; omega
          · exact h
        clear hj
        generalize plN x = pl at *
        by_cases hev : F % 2 = 0
        · have c1 : ((F : Int) % 2 == 0) = true := beq_iff_eq.2 (by omega)
          go_wp2_with fail
          go_round
          case rel => exact ⟨j + 1, F / 2, by go_num, by go_num, by rw [← HJF.out, Nat.pow_succ, Nat.mul_assoc]; congr 1; omega, by omega⟩
          case measure => simp [intOf]; omega
        · have c1 : ((F : Int) % 2 == 0) = false := beq_eq_false_iff_ne.2 (by omega)
          go_wp2_with fail
          go_ret3
          obtain ⟨u1, u2⟩ := HU.out j F (by omega) HJF.out
          rw [HM.out, HE.out, HB.out, u1, u2]
          exact ⟨rfl, rfl⟩
    · have hmr : mantN x = r + 4503599627370496 := by have := HMD.out; rw [if_neg hz] at this; exact this
      have HPL : Hid ((plN x : Int) = q - 1) := by show _ = _; have := HPD.out; omega
      have q2 : decide ((0 : Int) < (q : Int)) = true := by simp; omega
      clear HMD HPD HX
      go_wp2_with fail
      go_loop [8, 9] (fun f p => ∃ j F : Nat, f = .int .u64 F ∧ p = .int .i64 (-1074 + (plN x : Int) + j) ∧ 2 ^ j * F = mantN x ∧ F < 9007199254740992) (fun f _ => (intOf f).toNat)
      case atStart => exact ⟨0, r + 4503599627370496, by go_num, by rw [HPL.out]; go_num, by rw [hmr]; simp, by omega⟩
      case round =>
        obtain ⟨j, F, rfl, rfl, hj, hF⟩ := hrel
        have hj60 := HJ.out j F hj
        have HJF := Lib.hid hj
        have hF0 : 0 < F := by
          rcases Nat.eq_zero_or_pos F with h | h
          · subst h; simp at hj; omega
          · exact h
        clear hj
        generalize plN x = pl at *
        by_cases hev : F % 2 = 0
        · have c1 : ((F : Int) % 2 == 0) = true := beq_iff_eq.2 (by omega)
          go_wp2_with fail
          go_round
          case rel => exact ⟨j + 1, F / 2, by go_num, by go_num, by rw [← HJF.out, Nat.pow_succ, Nat.mul_assoc]; congr 1; omega, by omega⟩
          case measure => simp [intOf]; omega
        · have c1 : ((F : Int) % 2 == 0) = false := beq_eq_false_iff_ne.2 (by omega)
          go_wp2_with fail
          go_ret3
          obtain ⟨u1, u2⟩ := HU.out j F (by omega) HJF.out
          rw [HM.out, HE.out, HB.out, u1, u2]
          exact ⟨rfl, rfl⟩
  · have HM : Hid (prM x = 0) := if_neg h5
    have HE : Hid (prE x = 0) := if_neg h5
    have HB : Hid (prB x = decide (clsN x = 3 ∨ clsN x = 4)) := by show _ = _; unfold prB; simp [h5]
    have HC := Lib.hid (cls_dom hx)
    have H5 := Lib.hid h5
    clear h5
    go_enter Tryd.func91, Tryd.ntmps91
    go_wp2_with fail
    refine (rclass_calls x _ hx).mono ?_
    rintro e w' ⟨rfl, rfl⟩
    generalize hq : clsN x = q at *
    clear hq
    rcases HC.out with rfl | rfl | rfl | rfl | rfl | rfl | rfl
    case inr.inr.inr.inr.inr.inl => exact absurd rfl H5.out
    all_goals
      go_wp2_with fail
      go_ret3
      rw [HM.out, HE.out, HB.out]
      exact ⟨rfl, rfl⟩

theorem pcE_ok {x : Nat} (h : prB x = true) : pcE x = 0 := by
  unfold pcE prB at *
  rw [if_pos (of_decide_eq_true h)]
theorem pcE_bad {x : Nat} (h : prB x = false) : pcE x = 13 := by
  unfold pcE prB at *
  rw [if_neg (of_decide_eq_false h)]
theorem due_parts (n x : Nat) (hx : x < 18446744073709551616) (hn : n < 18446744073709551616) :
    (∀ s : Nat, prE x = -(s : Int) → min ((n * prM x / 18446744073709551616 * 18446744073709551616 + n * prM x % 18446744073709551616) / 2 ^ s) 18446744073709551615 = dueN n x) ∧
    (∀ s : Nat, prE x = (s : Int) → min ((n * prM x / 18446744073709551616 * 18446744073709551616 + n * prM x % 18446744073709551616) * 2 ^ s) 18446744073709551615 = dueN n x) := by
  rw [show n * prM x / 18446744073709551616 * 18446744073709551616 + n * prM x % 18446744073709551616 = n * prM x by omega]
  by_cases h5 : clsN x = 5
  · exact ⟨fun s e => by rw [due_down n x s hx h5 e]; rfl, fun s e => by rw [due_up n x s hx h5 e]; rfl⟩
  · have hm : prM x = 0 := if_neg h5
    have hv : valV x = 0 := if_neg h5
    unfold dueN
    rw [hm, hv, Nat.mul_zero]
    exact ⟨fun s e => by rw [Nat.zero_div, Nat.zero_div], fun s e => by rw [Nat.zero_div, Nat.zero_mul]⟩

/-- what a price gives: bytes' worth, and the error -/
def dueV (n x : Nat) : Nat := if prB x then dueN n x else 0
set_option maxHeartbeats 1000000 in
theorem due_calls (n x : Nat) (w : World) (hn : n < 18446744073709551616) (hx : x < 18446744073709551616) (hL : Laid w) : Calls Tryd.prog 64 #[.int .u64 n, .int .u64 x] w fun e w' => e = .returned (.tuple #[.int .u64 (dueV n x), .int .i64 (pcE x)]) ∧ w = w' := by
  have HL := Lib.hid hL
  clear hL
  by_cases hb : prB x = true
  · have HE := Lib.hid (pcE_ok hb)
    have HV : Hid (dueV n x = dueN n x) := if_pos hb
    obtain ⟨d1, d2⟩ := due_parts n x hx hn
    have D1 := Lib.hid d1
    have D2 := Lib.hid d2
    have hm := prM_lt hx
    have he := prE_rng hx
    have hh : n * prM x / 18446744073709551616 < 18446744073709551616 := by
      have : n * prM x ≤ 18446744073709551616 * 18446744073709551615 := Nat.mul_le_mul (by omega) (by omega)
      omega
    have hl : n * prM x % 18446744073709551616 < 18446744073709551616 := by omega
    have HB := Lib.hid hb
    clear d1 d2 hb
    go_enter Tryd.func64, Tryd.ntmps64
    go_wp2_with fail
    refine (pcheck_calls x _ hx).mono ?_
    rintro e w' ⟨rfl, rfl⟩
    rw [HE.out]
    go_wp2_with fail
    refine (parts_calls x _ hx HL.out).mono ?_
    rintro e w' ⟨rfl, rfl⟩
    rw [HB.out]
    go_wp2_with fail
    refine (Tryd.bits_Mul64 n (prM x) hn (by omega) _).mono ?_
    rintro e w' ⟨rfl, rfl⟩
    generalize n * prM x / 18446744073709551616 = hi at *
    generalize n * prM x % 18446744073709551616 = lo at *
    generalize prM x = m at *
    generalize prE x = E at *
    by_cases hneg : E < 0
    · obtain ⟨s, rfl⟩ : ∃ s : Nat, E = -(s : Int) := ⟨(-E).toNat, by omega⟩
      have c1 : decide (-(s : Int) < 0) = true := by simp; omega
      have c2 : IntKind.u64.wrap (s : Int) = (s : Int) := IntWalk.u64_in _ (by omega)
      have HR := Lib.hid (D1.out s rfl)
      clear D1 D2
      go_wp2_with fail
      refine (down_calls hi lo s _ hh hl (by omega)).mono ?_
      rintro e w' ⟨rfl, rfl⟩
      rw [HR.out]
      go_wp2_with fail
      go_ret2
      rw [HV.out, HE.out]
      exact ⟨rfl, rfl⟩
    · obtain ⟨s, rfl⟩ : ∃ s : Nat, E = (s : Int) := ⟨E.toNat, by omega⟩
      have c1 : decide ((s : Int) < 0) = false := by simp
      have c2 : IntKind.u64.wrap (s : Int) = (s : Int) := IntWalk.u64_in _ (by omega)
      have HR := Lib.hid (D2.out s rfl)
      clear D1 D2
      go_wp2_with fail
      refine (up_calls hi lo s _ hh hl (by omega)).mono ?_
      rintro e w' ⟨rfl, rfl⟩
      rw [HR.out]
      go_wp2_with fail
      go_ret2
      rw [HV.out, HE.out]
      exact ⟨rfl, rfl⟩
  · have hb : prB x = false := by simpa using hb
    have HE := Lib.hid (pcE_bad hb)
    have HV : Hid (dueV n x = 0) := by show _ = _; unfold dueV; rw [hb]; rfl
    clear hb
    go_enter Tryd.func64, Tryd.ntmps64
    go_wp2_with fail
    refine (pcheck_calls x _ hx).mono ?_
    rintro e w' ⟨rfl, rfl⟩
    rw [HE.out]
    go_wp2_with fail
    go_ret2
    rw [HV.out, HE.out]
    exact ⟨rfl, rfl⟩

def addN (a b : Nat) : Nat := if 18446744073709551616 ≤ a + b then 18446744073709551615 else a + b
theorem over_calls (a b : Nat) (w : World) (ha : a < 18446744073709551616) (hb : b < 18446744073709551616) : Calls Tryd.prog 63 #[.int .u64 a, .int .u64 b] w fun e w' => e = .returned (.bool (decide (18446744073709551616 ≤ a + b))) ∧ w = w' := by
  have HD : Hid (decide (IntKind.u64.wrap ((a : Int) + b) < a) = decide (18446744073709551616 ≤ a + b)) := by
    show _ = _
    rw [IntKind.wrap_u64, Bool.eq_iff_iff]; simp only [decide_eq_true_eq]; omega
  go_enter Tryd.func63, Tryd.ntmps63
  go_wp2_with fail
  go_ret
  exact ⟨ret_bool' HD.out, rfl⟩
theorem add_calls (a b : Nat) (w : World) (ha : a < 18446744073709551616) (hb : b < 18446744073709551616) : Calls Tryd.prog 57 #[.int .u64 a, .int .u64 b] w fun e w' => e = .returned (.int .u64 (addN a b)) ∧ w = w' := by
  by_cases h : 18446744073709551616 ≤ a + b
  · have HA : Hid (addN a b = 18446744073709551615) := if_pos h
    go_enter Tryd.func57, Tryd.ntmps57
    go_wp2_with fail
    refine (over_calls a b _ ha hb).mono ?_
    rintro e w' ⟨rfl, rfl⟩
    rw [decide_eq_true h]
    go_wp2_with fail
    go_ret
    rw [HA.out]
    exact ⟨rfl, rfl⟩
  · have HA : Hid (addN a b = a + b) := if_neg h
    have hw : IntKind.u64.wrap ((a : Int) + b) = (a : Int) + b := IntWalk.u64_in _ (by omega)
    go_enter Tryd.func57, Tryd.ntmps57
    go_wp2_with fail
    refine (over_calls a b _ ha hb).mono ?_
    rintro e w' ⟨rfl, rfl⟩
    rw [decide_eq_false h]
    go_wp2_with fail
    go_ret
    rw [HA.out]
    exact ⟨rfl, rfl⟩
theorem radd_calls (a b : Nat) (w : World) (ha : a < 18446744073709551616) (hb : b < 18446744073709551616) : Calls Tryd.prog 59 #[.int .u64 a, .int .u64 b] w fun e w' => e = .returned (.int .u64 (addN a b)) ∧ w = w' := by
  have hs : IntKind.u64.wrap (18446744073709551615 - (b : Int)) = 18446744073709551615 - (b : Int) := IntWalk.u64_in _ (by omega)
  by_cases h : 18446744073709551616 ≤ a + b
  · have HA : Hid (addN a b = 18446744073709551615) := if_pos h
    have hd : decide (18446744073709551615 - (b : Int) < a) = true := by simp; omega
    go_enter Tryd.func59, Tryd.ntmps59
    go_wp2_with fail
    go_ret
    rw [HA.out]
    exact ⟨rfl, rfl⟩
  · have HA : Hid (addN a b = a + b) := if_neg h
    have hd : decide (18446744073709551615 - (b : Int) < a) = false := by simp; omega
    have hw : IntKind.u64.wrap ((a : Int) + b) = (a : Int) + b := IntWalk.u64_in _ (by omega)
    go_enter Tryd.func59, Tryd.ntmps59
    go_wp2_with fail
    go_ret
    rw [HA.out]
    exact ⟨rfl, rfl⟩

end Go.Proofs.YtkbjnlbbfapgdaaDoor
