/- Contracts of ref05.Parts and ref05.Pick. -/
import Derived.Test.YtlgngnkaiidbeaaPickA
import Derived.Test.YtlgngnkaiidbeaaPlainPick2
import Derived.Test.YtlgngnkaiidbeaaReal2
set_option maxRecDepth 100000
set_option exponentiation.threshold 3000
set_option linter.unusedVariables false
set_option linter.unusedSimpArgs false
namespace Go.Proofs.Ytlgngnkaiidbeaa
open Go.RowKit

set_option maxHeartbeats 1000000 in
theorem rparts_calls (x : Nat) (w : World) (hx : x < 18446744073709551616) : Calls Try.prog 71 #[.int .u64 x] w fun e w' => e = .returned (.tuple #[.int .u64 (prM x), .int .i64 (prE x), .bool (prB x)]) ∧ w = w' := by
  by_cases h5 : clsN x = 5
  · obtain ⟨g0, g1⟩ := cls5 hx h5
    obtain ⟨m1, m2, m3⟩ := mant_rng g0 g1
    obtain ⟨ht, t2, t3⟩ := tzF_spec 64 (mantN x) m1 (by omega)
    have HM : Hid (prM x = mantN x / 2 ^ tzF 64 (mantN x)) := if_pos h5
    have HE : Hid (prE x = -1074 + (plN x : Int) + (tzF 64 (mantN x) : Int)) := if_pos h5
    have HB : Hid (prB x = true) := decide_eq_true (by omega)
    have HC := Lib.hid h5
    have HMD : Hid (mantN x = if x / 4503599627370496 = 0 then x else x % 4503599627370496 + 4503599627370496) := rfl
    have HPD : Hid (plN x = x / 4503599627370496 - 1) := rfl
    have HU : Hid (∀ j f, f % 2 = 1 → 2 ^ j * f = mantN x → j = tzF 64 (mantN x) ∧ f = mantN x / 2 ^ tzF 64 (mantN x)) := fun j f h1 h2 => odd_pow_unique _ _ _ _ h1 t2 (h2.trans t3)
    clear t2 t3 h5
    generalize mantN x / 2 ^ tzF 64 (mantN x) = m at *
    generalize tzF 64 (mantN x) = t at *
    have hmod : x / 4503599627370496 % 2048 = x / 4503599627370496 := by omega
    have HX : Hid (x = x / 4503599627370496 * 4503599627370496 + x % 4503599627370496) := by show _ = _; omega
    have hr : x % 4503599627370496 < 4503599627370496 := by omega
    have hq : x / 4503599627370496 < 2047 := by omega
    have HJ : Hid (∀ j f, 2 ^ j * f = mantN x → j ≤ 60) := by
      intro j f e
      rcases Nat.lt_or_ge 60 j with a | a
      · have h1 : 2 ^ 61 ≤ 2 ^ j := Nat.pow_le_pow_right (by omega) a
        have h2 : 0 < f := by
          rcases Nat.eq_zero_or_pos f with h | h
          · subst h; omega
          · exact h
        have h3 : 2 ^ j * 1 ≤ 2 ^ j * f := Nat.mul_le_mul_left _ h2
        rw [show (2 : Nat) ^ 61 = 2305843009213693952 by decide] at h1
        omega
      · exact a
    go_enter Try.func71, Try.ntmps71
    go_wp2_with fail
    refine (rclass_calls x _ hx).mono ?_
    rintro e w' ⟨rfl, rfl⟩
    rw [HC.out]
    go_wp2_with fail
    refine (fields_calls x _ hx).mono ?_
    rintro e w' ⟨rfl, rfl⟩
    rw [hmod]
    generalize x % 4503599627370496 = r at *
    generalize x / 4503599627370496 = q at *
    have q1 : IntKind.i64.wrap (q : Int) = (q : Int) := IntWalk.i64_in _ (by omega)
    by_cases hz : q = 0
    · have hmr : mantN x = r := by have := HMD.out; rw [if_pos hz] at this; have := HX.out; omega
      have HPL : Hid (plN x = 0) := by show _ = _; have := HPD.out; omega
      subst hz
      clear HMD HPD HX
      go_wp2_with fail
      go_loop [8, 9] (fun f p => ∃ j F : Nat, f = .int .u64 F ∧ p = .int .i64 (-1074 + (plN x : Int) + j) ∧ 2 ^ j * F = mantN x ∧ F < 9007199254740992) (fun f _ => (intOf f).toNat)
      case atStart => exact ⟨0, r, rfl, by rw [HPL.out]; rfl, by rw [hmr]; simp, by omega⟩
      case round =>
        obtain ⟨j, F, rfl, rfl, hj, hF⟩ := hrel
        have hj60 := HJ.out j F hj
        have HJF := Lib.hid hj
        have hF0 : 0 < F := by
          rcases Nat.eq_zero_or_pos F with h | h
          · subst h; simp at hj; omega
          · exact h
        clear hj
        generalize plN x = pl at *
        by_cases hev : F % 2 = 0
        · have c1 : ((F : Int) % 2 == 0) = true := beq_iff_eq.2 (by omega)
          go_wp2_with fail
          go_round
          case rel => exact ⟨j + 1, F / 2, by go_num, by go_num, by rw [← HJF.out, Nat.pow_succ, Nat.mul_assoc]; congr 1; omega, by omega⟩
          case measure => simp [intOf]; omega
        · have c1 : ((F : Int) % 2 == 0) = false := beq_eq_false_iff_ne.2 (by omega)
          go_wp2_with fail
          go_ret3
          obtain ⟨u1, u2⟩ := HU.out j F (by omega) HJF.out
          rw [HM.out, HE.out, HB.out, u1, u2]
          exact ⟨rfl, rfl⟩
    · have hmr : mantN x = r + 4503599627370496 := by have := HMD.out; rw [if_neg hz] at this; exact this
      have HPL : Hid ((plN x : Int) = q - 1) := by show _ = _; have := HPD.out; omega
      have q2 : decide ((0 : Int) < (q : Int)) = true := by simp; omega
      clear HMD HPD HX
      go_wp2_with fail
      go_loop [8, 9] (fun f p => ∃ j F : Nat, f = .int .u64 F ∧ p = .int .i64 (-1074 + (plN x : Int) + j) ∧ 2 ^ j * F = mantN x ∧ F < 9007199254740992) (fun f _ => (intOf f).toNat)
      case atStart => exact ⟨0, r + 4503599627370496, by go_num, by rw [HPL.out]; go_num, by rw [hmr]; simp, by omega⟩
      case round =>
        obtain ⟨j, F, rfl, rfl, hj, hF⟩ := hrel
        have hj60 := HJ.out j F hj
        have HJF := Lib.hid hj
        have hF0 : 0 < F := by
          rcases Nat.eq_zero_or_pos F with h | h
          · subst h; simp at hj; omega
          · exact h
        clear hj
        generalize plN x = pl at *
        by_cases hev : F % 2 = 0
        · have c1 : ((F : Int) % 2 == 0) = true := beq_iff_eq.2 (by omega)
          go_wp2_with fail
          go_round
          case rel => exact ⟨j + 1, F / 2, by go_num, by go_num, by rw [← HJF.out, Nat.pow_succ, Nat.mul_assoc]; congr 1; omega, by omega⟩
          case measure => simp [intOf]; omega
        · have c1 : ((F : Int) % 2 == 0) = false := beq_eq_false_iff_ne.2 (by omega)
          go_wp2_with fail
          go_ret3
          obtain ⟨u1, u2⟩ := HU.out j F (by omega) HJF.out
          rw [HM.out, HE.out, HB.out, u1, u2]
          exact ⟨rfl, rfl⟩
  · have HM : Hid (prM x = 0) := if_neg h5
    have HE : Hid (prE x = 0) := if_neg h5
    have HB : Hid (prB x = decide (clsN x = 3 ∨ clsN x = 4)) := by show _ = _; unfold prB; simp [h5]
    have HC := Lib.hid (cls_dom hx)
    have H5 := Lib.hid h5
    clear h5
    go_enter Try.func71, Try.ntmps71
    go_wp2_with fail
    refine (rclass_calls x _ hx).mono ?_
    rintro e w' ⟨rfl, rfl⟩
    generalize hq : clsN x = q at *
    clear hq
    rcases HC.out with rfl | rfl | rfl | rfl | rfl | rfl | rfl
    case inr.inr.inr.inr.inr.inl => exact absurd rfl H5.out
    all_goals
      go_wp2_with fail
      go_ret3
      rw [HM.out, HE.out, HB.out]
      exact ⟨rfl, rfl⟩


theorem pr_one_up {x : Nat} (hx : x < 18446744073709551616) (h5 : clsN x = 5) : prB x = true ∧ 0 < prM x := by
  obtain ⟨g0, g1⟩ := cls5 hx h5
  obtain ⟨m1, m2, m3⟩ := mant_rng g0 g1
  obtain ⟨ht, t2, t3⟩ := tzF_spec 64 (mantN x) m1 (by omega)
  refine ⟨decide_eq_true (by omega), ?_⟩
  have hM : prM x = mantN x / 2 ^ tzF 64 (mantN x) := if_pos h5
  omega

theorem bit_t (m d : Nat) : ((m : Int) / 2 ^ d).tmod 2 = ((m / 2 ^ d % 2 : Nat) : Int) := by
  rw [show (m : Int) / 2 ^ d = ((m / 2 ^ d : Nat) : Int) by push_cast; rfl]
  exact (Int.ofNat_tmod (m / 2 ^ d) 2).symm
set_option maxHeartbeats 4000000 in
theorem rpick_calls (x : Nat) (n : Int) (w : World) (hx : x < 18446744073709551616) (hn : n < 9007199254740992) (hn0 : -9223372036854775808 ≤ n) : Calls Try.prog 26 #[.int .u64 x, .int .i64 n] w fun e w' => e = .returned (.int .i64 (pickN x n)) ∧ w = w' := by
  by_cases h1 : n < 1
  · have E : Hid (pickN x n = -1) := if_pos h1
    go_enter Try.func26, Try.ntmps26
    go_wp2_with fail
    go_ret
    exact ⟨congrArg (fun v => Ending.returned (.int .i64 v)) E.out.symm, rfl⟩
  have HP : Hid (∀ W, Calls Try.prog 71 #[.int .u64 x] W fun e w' => e = .returned (.tuple #[.int .u64 (prM x), .int .i64 (prE x), .bool (prB x)]) ∧ W = w') := fun W => rparts_calls x W hx
  have HC : Hid (∀ W, Calls Try.prog 27 #[.int .u64 x] W fun e w' => e = .returned (.int .i64 (clsN x)) ∧ W = w') := fun W => rclass_calls x W hx
  by_cases h6 : clsN x = 6
  · have E : Hid (pickN x n = n - 1) := by show _ = _; unfold pickN; rw [if_neg h1, if_pos h6]
    have H6 := Lib.hid h6
    generalize prM x = M at *
    generalize prE x = e at *
    generalize prB x = b at *
    go_enter Try.func26, Try.ntmps26
    go_wp2_with fail
    refine (HP.out _).mono ?_
    rintro e w' ⟨rfl, rfl⟩
    go_wp2_with fail
    refine (HC.out _).mono ?_
    rintro e w' ⟨rfl, rfl⟩
    rw [H6.out]
    go_wp2_with fail
    go_ret
    exact ⟨congrArg (fun v => Ending.returned (.int .i64 v)) E.out.symm, rfl⟩
  by_cases h5 : clsN x = 5
  · obtain ⟨p1, p2⟩ := pr_one_up hx h5
    have hM := prM_lt hx
    have hE := prE_rng hx
    have hone := ref_one hx h5
    have H5 := Lib.hid h5
    have HB := Lib.hid p1
    by_cases hb : 4607182418800017408 ≤ x
    · have E : Hid (pickN x n = n - 1) := by show _ = _; unfold pickN; rw [if_neg h1, if_neg h6, if_pos h5, if_pos hb]
      rcases hone.1 hb with h | ⟨q, hq, hq1, hq2, hq3⟩
      · clear hone p1
        generalize prM x = M at *
        generalize prE x = e at *
        go_enter Try.func26, Try.ntmps26
        go_wp2_with fail
        refine (HP.out _).mono ?_
        rintro e w' ⟨rfl, rfl⟩
        rw [HB.out]
        go_wp2_with fail
        refine (HC.out _).mono ?_
        rintro e w' ⟨rfl, rfl⟩
        rw [H5.out]
        go_wp2_with fail
        go_ret
        exact ⟨congrArg (fun v => Ending.returned (.int .i64 v)) E.out.symm, rfl⟩
      · clear hone p1
        rw [hq] at HP hE
        generalize prM x = M at *
        have c1 : decide ((0 : Int) ≤ -(q : Int)) = false := by simp; omega
        have c2 : decide ((0 : Int) < (M : Int) / 2 ^ q) = true := by
          rw [show (M : Int) / 2 ^ q = ((M / 2 ^ q : Nat) : Int) by push_cast; rfl]
          simp only [decide_eq_true_eq]; omega
        clear hq3 hq
        go_enter Try.func26, Try.ntmps26
        go_wp2_with fail
        refine (HP.out _).mono ?_
        rintro e w' ⟨rfl, rfl⟩
        rw [HB.out]
        go_wp2_with fail
        refine (HC.out _).mono ?_
        rintro e w' ⟨rfl, rfl⟩
        rw [H5.out]
        go_wp2_with fail
        go_ret
        exact ⟨congrArg (fun v => Ending.returned (.int .i64 v)) E.out.symm, rfl⟩
    · obtain ⟨N, rfl⟩ : ∃ N : Nat, n = (N : Int) := ⟨n.toNat, by omega⟩
      have E : Hid (pickN x (N : Int) = ((kN x * N / 9007199254740992 : Nat) : Int)) := by show _ = _; unfold pickN; rw [if_neg h1, if_neg h6, if_pos h5, if_neg hb]; rfl
      obtain ⟨q, hq⟩ : ∃ q : Nat, prE x = -(q : Int) := ⟨(-prE x).toNat, by
        have : ¬ 0 ≤ prE x := fun h => hb (hone.2 (.inl h))
        omega⟩
      have hq0 : 1 ≤ q := by
        rcases Nat.eq_zero_or_pos q with h | h
        · exact absurd (hone.2 (.inl (by omega))) hb
        · exact h
      have HZ : Hid (q ≤ 63 → prM x / 2 ^ q = 0) := fun h => by
        rcases Nat.eq_zero_or_pos (prM x / 2 ^ q) with z | z
        · exact z
        · exact absurd (hone.2 (.inr ⟨q, hq, hq0, h, z⟩)) hb
      have HK := Lib.hid (kN_ref hx h5 hq)
      have hk := kN_lt (by omega) h5
      clear hone p1 h5 h6
      rw [hq] at HP
      rw [hq] at hE
      clear hq
      generalize prM x = M at *
      have HBD : Hid (∀ j, j ≤ 53 → M * 2 ^ j / 2 ^ q ≤ kN x ∧ (j ≤ 52 → M * 2 ^ j / 2 ^ q ≤ 4503599627370495)) := by
        intro j hj
        have a1 : M * 2 ^ j / 2 ^ q ≤ kN x := by
          rw [HK.out]
          exact Nat.div_le_div_right (Nat.mul_le_mul_left _ (Nat.le_trans (Nat.pow_le_pow_right (by omega) hj) (by decide)))
        refine ⟨a1, fun h => ?_⟩
        have s := k_step M q j
        have a2 : M * 2 ^ (j + 1) / 2 ^ q ≤ kN x := by
          rw [HK.out]
          exact Nat.div_le_div_right (Nat.mul_le_mul_left _ (Nat.le_trans (Nat.pow_le_pow_right (by omega) (by omega : j + 1 ≤ 53)) (by decide)))
        rw [s] at a2
        omega
      generalize kN x = K at *
      have c1 : decide ((0 : Int) ≤ -(q : Int)) = false := by simp; omega
      have HK53 : Hid (∀ z, z = 53 → M * 2 ^ z / 2 ^ q = K) := fun z hz => by rw [hz]; exact HK.out.symm
      clear HK
      have HO : Hid (∀ c o r, o * 9007199254740992 + r = K * (N / 2 ^ (c + 1)) → o < 9007199254740992 ∧ (2 * o + (2 * r + N / 2 ^ c % 2 * K) / 9007199254740992) * 9007199254740992 + (2 * r + N / 2 ^ c % 2 * K) % 9007199254740992 = K * (N / 2 ^ c)) := by
        intro c o r h
        refine ⟨?_, o_step K N c o r h⟩
        have e1 : N / 2 ^ (c + 1) ≤ N := Nat.div_le_self _ _
        have e2 : K * (N / 2 ^ (c + 1)) ≤ 9007199254740991 * 9007199254740991 := Nat.mul_le_mul (by omega) (by omega)
        rw [← h] at e2
        omega
      have HE2 : Hid (∀ o r, o * 9007199254740992 + r = K * (N / 2 ^ 0) → r < 9007199254740992 → (o : Int) = pickN x (N : Int)) := by
        intro o r h hr
        rw [E.out, ← show N / 2 ^ 0 = N by simp, ← h]
        omega
      have HN53 : Hid (∀ z, z = 53 → K * (N / 2 ^ z) = 0) := by
        intro z hz
        rw [hz, Nat.div_eq_of_lt (by omega), Nat.mul_zero]
      have HS : Hid (∀ i, M * 2 ^ (i + 1) / 2 ^ q = 2 * (M * 2 ^ i / 2 ^ q) + (if i + 1 ≤ q then M / 2 ^ (q - (i + 1)) % 2 else 0)) := fun i => k_step M q i
      have HFB : Hid (∀ j, 53 ≤ j → M / 2 ^ j % 2 = 0) := fun j h => far_bit hM h
      have HK0 : Hid (∀ z, z = 0 → M * 2 ^ z / 2 ^ q = 0) := by
        intro z hz
        rw [hz, Nat.pow_zero, Nat.mul_one]
        by_cases h : q ≤ 63
        · exact HZ.out h
        · refine Nat.div_eq_of_lt ?_
          have : (2 : Nat) ^ 53 ≤ 2 ^ q := Nat.pow_le_pow_right (by omega) (by omega)
          have e : (2 : Nat) ^ 53 = 9007199254740992 := by decide
          omega
      have hN0 : 1 ≤ N := by omega
      have hnN : N < 9007199254740992 := by omega
      clear E hn hn0 hb hx h1
      by_cases hq63 : q ≤ 63
      · have hz := HZ.out hq63
        have c2 : decide ((0 : Int) < (M : Int) / 2 ^ q) = false := by
          rw [show (M : Int) / 2 ^ q = ((M / 2 ^ q : Nat) : Int) by push_cast; rfl, hz]; rfl
        clear hz
        go_enter Try.func26, Try.ntmps26
        go_wp2_with fail
        refine (HP.out _).mono ?_
        rintro e w' ⟨rfl, rfl⟩
        rw [HB.out]
        go_wp2_with fail
        refine (HC.out _).mono ?_
        rintro e w' ⟨rfl, rfl⟩
        rw [H5.out]
        go_wp2_with fail
        go_loop [8, 9] (fun k i => ∃ j : Nat, k = .int .u64 ((M * 2 ^ j / 2 ^ q : Nat) : Int) ∧ i = .int .i64 ((j : Int) + 1) ∧ j ≤ 53) (fun _ i => (54 - intOf i).toNat)
        case atStart => exact ⟨0, by rw [HK0.out 0 rfl]; rfl, rfl, by omega⟩
        case round =>
          obtain ⟨j, rfl, rfl, hj⟩ := hrel
          have HKJ := Lib.hid (HS.out j)
          obtain ⟨kb1, kb2⟩ := HBD.out j hj
          have HJ53 : Hid (j = 53 → M * 2 ^ j / 2 ^ q = K) := fun h => HK53.out _ h
          by_cases hlt : j ≤ 52
          · have kb3 := kb2 hlt
            clear kb2 HJ53
            generalize M * 2 ^ j / 2 ^ q = k at *
            by_cases hjq : j + 1 ≤ q
            · have HI := Lib.hid (HKJ.out.trans (by rw [if_pos hjq]))
              obtain ⟨d, hd⟩ : ∃ d, d = q - (j + 1) := ⟨_, rfl⟩
              have eD : (q : Int) - ((j : Int) + 1) = (d : Int) := by omega
              rw [← hd] at HI
              by_cases hd64 : d < 64
              · by_cases hbit : M / 2 ^ d % 2 = 1
                · have HI2 : Hid (M * 2 ^ (j + 1) / 2 ^ q = 2 * k + 1) := by show _ = _; rw [HI.out, hbit]
                  have bt : (((M : Int) / 2 ^ d).tmod 2 == 1) = true := by
                    rw [bit_t M d, hbit]; rfl
                  clear hbit HI hd HKJ
                  go_wp2_with fail
                  go_round
                  case rel => exact ⟨j + 1, by rw [HI2.out]; go_num, by go_num, by omega⟩
                  case measure => simp [intOf]; omega
                · have HI2 : Hid (M * 2 ^ (j + 1) / 2 ^ q = 2 * k) := by show _ = _; rw [HI.out]; omega
                  have bt : (((M : Int) / 2 ^ d).tmod 2 == 1) = false := by
                    rw [bit_t M d]; exact beq_eq_false_iff_ne.2 (by omega)
                  clear hbit HI hd HKJ
                  go_wp2_with fail
                  go_round
                  case rel => exact ⟨j + 1, by rw [HI2.out]; go_num, by go_num, by omega⟩
                  case measure => simp [intOf]; omega
              · exfalso; omega
            · have HI2 : Hid (M * 2 ^ (j + 1) / 2 ^ q = 2 * k) := by show _ = _; rw [HKJ.out, if_neg hjq]; rfl
              clear HKJ
              go_wp2_with fail
              go_round
              case rel => exact ⟨j + 1, by rw [HI2.out]; go_num, by go_num, by omega⟩
              case measure => simp [intOf]; omega
          · have e53 : j = 53 := by omega
            subst e53
            rw [HJ53.out rfl]
            clear HKJ kb1 kb2 HJ53 hlt hj
            go_wp2_with fail
            go_loop [11, 12, 13] (fun a b i => ∃ c o r : Nat, a = .int .u64 (o : Int) ∧ b = .int .u64 (r : Int) ∧ i = .int .i64 ((c : Int) - 1) ∧ c ≤ 53 ∧ r < 9007199254740992 ∧ o * 9007199254740992 + r = K * (N / 2 ^ c)) (fun _ _ i => (intOf i + 1).toNat)
            case atStart => exact ⟨53, 0, 0, rfl, rfl, rfl, by omega, by omega, by rw [HN53.out 53 rfl]⟩
            case round =>
              obtain ⟨c, o, r, rfl, rfl, rfl, hc, hr, heq⟩ := hrel
              rcases c with _ | c
              · have HR := Lib.hid (HE2.out o r heq hr)
                have ho : o < 9007199254740992 := by
                  have := (show o * 9007199254740992 + r = K * N by simpa using heq)
                  have e2 : K * N ≤ 9007199254740991 * 9007199254740991 := Nat.mul_le_mul (by omega) (by omega)
                  omega
                clear heq
                go_wp2_with fail
                go_ret
                rw [← HR.out]
                exact ⟨rfl, rfl⟩
              · obtain ⟨ho, hs⟩ := HO.out c o r heq
                clear heq
                rw [show ((c + 1 : Nat) : Int) - 1 = (c : Int) by omega]
                by_cases hbit : N / 2 ^ c % 2 = 1
                · rw [hbit, Nat.one_mul] at hs
                  have HSS := Lib.hid hs
                  clear hs
                  have bt : (((N : Int) / 2 ^ c).tmod 2 == 1) = true := by
                    rw [bit_t N c, hbit]; rfl
                  clear hbit
                  go_wp2_with fail
                  go_round
                  case rel => exact ⟨c, 2 * o + (2 * r + K) / 9007199254740992, (2 * r + K) % 9007199254740992, by go_num, by go_num, by go_num, by omega, by omega, HSS.out⟩
                  case measure => simp [intOf]
                · rw [show N / 2 ^ c % 2 = 0 by omega, Nat.zero_mul, Nat.add_zero] at hs
                  have HSS := Lib.hid hs
                  clear hs
                  have bt : (((N : Int) / 2 ^ c).tmod 2 == 1) = false := by
                    rw [bit_t N c]; exact beq_eq_false_iff_ne.2 (by omega)
                  clear hbit
                  go_wp2_with fail
                  go_round
                  case rel => exact ⟨c, 2 * o + (2 * r) / 9007199254740992, (2 * r) % 9007199254740992, by go_num, by go_num, by go_num, by omega, by omega, HSS.out⟩
                  case measure => simp [intOf]
      · go_enter Try.func26, Try.ntmps26
        go_wp2_with fail
        refine (HP.out _).mono ?_
        rintro e w' ⟨rfl, rfl⟩
        rw [HB.out]
        go_wp2_with fail
        refine (HC.out _).mono ?_
        rintro e w' ⟨rfl, rfl⟩
        rw [H5.out]
        go_wp2_with fail
        go_loop [8, 9] (fun k i => ∃ j : Nat, k = .int .u64 ((M * 2 ^ j / 2 ^ q : Nat) : Int) ∧ i = .int .i64 ((j : Int) + 1) ∧ j ≤ 53) (fun _ i => (54 - intOf i).toNat)
        case atStart => exact ⟨0, by rw [HK0.out 0 rfl]; rfl, rfl, by omega⟩
        case round =>
          obtain ⟨j, rfl, rfl, hj⟩ := hrel
          have HKJ := Lib.hid (HS.out j)
          obtain ⟨kb1, kb2⟩ := HBD.out j hj
          have HJ53 : Hid (j = 53 → M * 2 ^ j / 2 ^ q = K) := fun h => HK53.out _ h
          by_cases hlt : j ≤ 52
          · have kb3 := kb2 hlt
            clear kb2 HJ53
            generalize M * 2 ^ j / 2 ^ q = k at *
            by_cases hjq : j + 1 ≤ q
            · have HI := Lib.hid (HKJ.out.trans (by rw [if_pos hjq]))
              obtain ⟨d, hd⟩ : ∃ d, d = q - (j + 1) := ⟨_, rfl⟩
              have eD : (q : Int) - ((j : Int) + 1) = (d : Int) := by omega
              rw [← hd] at HI
              by_cases hd64 : d < 64
              · by_cases hbit : M / 2 ^ d % 2 = 1
                · have HI2 : Hid (M * 2 ^ (j + 1) / 2 ^ q = 2 * k + 1) := by show _ = _; rw [HI.out, hbit]
                  have bt : (((M : Int) / 2 ^ d).tmod 2 == 1) = true := by
                    rw [bit_t M d, hbit]; rfl
                  clear hbit HI hd HKJ
                  go_wp2_with fail
                  go_round
                  case rel => exact ⟨j + 1, by rw [HI2.out]; go_num, by go_num, by omega⟩
                  case measure => simp [intOf]; omega
                · have HI2 : Hid (M * 2 ^ (j + 1) / 2 ^ q = 2 * k) := by show _ = _; rw [HI.out]; omega
                  have bt : (((M : Int) / 2 ^ d).tmod 2 == 1) = false := by
                    rw [bit_t M d]; exact beq_eq_false_iff_ne.2 (by omega)
                  clear hbit HI hd HKJ
                  go_wp2_with fail
                  go_round
                  case rel => exact ⟨j + 1, by rw [HI2.out]; go_num, by go_num, by omega⟩
                  case measure => simp [intOf]; omega
              · have HI2 : Hid (M * 2 ^ (j + 1) / 2 ^ q = 2 * k) := by show _ = _; rw [HI.out, HFB.out d (by omega), Nat.add_zero]
                clear HI hd HKJ
                go_wp2_with fail
                go_round
                case rel => exact ⟨j + 1, by rw [HI2.out]; go_num, by go_num, by omega⟩
                case measure => simp [intOf]; omega
            · exfalso; omega
          · have e53 : j = 53 := by omega
            subst e53
            rw [HJ53.out rfl]
            clear HKJ kb1 kb2 HJ53 hlt hj
            go_wp2_with fail
            go_loop [11, 12, 13] (fun a b i => ∃ c o r : Nat, a = .int .u64 (o : Int) ∧ b = .int .u64 (r : Int) ∧ i = .int .i64 ((c : Int) - 1) ∧ c ≤ 53 ∧ r < 9007199254740992 ∧ o * 9007199254740992 + r = K * (N / 2 ^ c)) (fun _ _ i => (intOf i + 1).toNat)
            case atStart => exact ⟨53, 0, 0, rfl, rfl, rfl, by omega, by omega, by rw [HN53.out 53 rfl]⟩
            case round =>
              obtain ⟨c, o, r, rfl, rfl, rfl, hc, hr, heq⟩ := hrel
              rcases c with _ | c
              · have HR := Lib.hid (HE2.out o r heq hr)
                have ho : o < 9007199254740992 := by
                  have := (show o * 9007199254740992 + r = K * N by simpa using heq)
                  have e2 : K * N ≤ 9007199254740991 * 9007199254740991 := Nat.mul_le_mul (by omega) (by omega)
                  omega
                clear heq
                go_wp2_with fail
                go_ret
                rw [← HR.out]
                exact ⟨rfl, rfl⟩
              · obtain ⟨ho, hs⟩ := HO.out c o r heq
                clear heq
                rw [show ((c + 1 : Nat) : Int) - 1 = (c : Int) by omega]
                by_cases hbit : N / 2 ^ c % 2 = 1
                · rw [hbit, Nat.one_mul] at hs
                  have HSS := Lib.hid hs
                  clear hs
                  have bt : (((N : Int) / 2 ^ c).tmod 2 == 1) = true := by
                    rw [bit_t N c, hbit]; rfl
                  clear hbit
                  go_wp2_with fail
                  go_round
                  case rel => exact ⟨c, 2 * o + (2 * r + K) / 9007199254740992, (2 * r + K) % 9007199254740992, by go_num, by go_num, by go_num, by omega, by omega, HSS.out⟩
                  case measure => simp [intOf]
                · rw [show N / 2 ^ c % 2 = 0 by omega, Nat.zero_mul, Nat.add_zero] at hs
                  have HSS := Lib.hid hs
                  clear hs
                  have bt : (((N : Int) / 2 ^ c).tmod 2 == 1) = false := by
                    rw [bit_t N c]; exact beq_eq_false_iff_ne.2 (by omega)
                  clear hbit
                  go_wp2_with fail
                  go_round
                  case rel => exact ⟨c, 2 * o + (2 * r) / 9007199254740992, (2 * r) % 9007199254740992, by go_num, by go_num, by go_num, by omega, by omega, HSS.out⟩
                  case measure => simp [intOf]
  · have E : Hid (pickN x n = 0) := by show _ = _; unfold pickN; rw [if_neg h1, if_neg h6, if_neg h5]
    have HM : Hid (prM x = 0) := if_neg h5
    have HN : Hid (clsN x ≠ 6) := h6
    generalize prE x = e at *
    generalize prB x = b at *
    go_enter Try.func26, Try.ntmps26
    go_wp2_with fail
    refine (HP.out _).mono ?_
    rintro e w' ⟨rfl, rfl⟩
    rw [HM.out]
    go_wp2_with fail
    refine (HC.out _).mono ?_
    rintro e w' ⟨rfl, rfl⟩
    generalize clsN x = c at *
    have n6 := HN.out
    cases b
    all_goals
      go_wp2_with fail
      go_ret
      exact ⟨congrArg (fun v => Ending.returned (.int .i64 v)) E.out.symm, rfl⟩
end Go.Proofs.Ytlgngnkaiidbeaa
