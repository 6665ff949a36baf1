/- Contracts of bits.TrailingZeros64, real.Parts, ref05.Parts, price.down, up, Due, Add, Over. -/
import Derived.Test.YtkbjnlbbfapgdaaDoorPrice
import Derived.Test.YtkbjnlbbfapgdaaDoorPlainPrice
import Derived.Test.YtkbjnlbbfapgdaaDoorShelf
import Derived.Laws.BitsAll
set_option maxRecDepth 100000
set_option exponentiation.threshold 3000
set_option linter.unusedVariables false
set_option linter.unusedSimpArgs false
namespace Go.Proofs.YtkbjnlbbfapgdaaDoor
open Go.RowKit

def Laid (w : World) : Prop := ∀ i, i < 64 → w.cell? ⟨1, i, none⟩ = some (.int .u8 (dbAt i : Int))
theorem Laid.ext {w w1 : World} (h : Laid w) (e : Ext w w1) : Laid w1 := fun i hi => e.cell (h i hi)

theorem u64w_neg (x : Nat) (h0 : 0 < x) (hx : x < 18446744073709551616) : IntKind.u64.wrap (-(x : Int)) = ((18446744073709551616 - x : Nat) : Int) := by
  have : IntKind.u64.wrap (-(x : Int)) = (-(x : Int)) % 18446744073709551616 := by first | rfl | simp [IntKind.wrap]
  rw [this]; omega
theorem u64w_nat (x : Nat) : IntKind.u64.wrap (x : Int) = ((x % 18446744073709551616 : Nat) : Int) := by
  have : IntKind.u64.wrap (x : Int) = (x : Int) % 18446744073709551616 := by first | rfl | simp [IntKind.wrap]
  rw [this]; omega

theorem tz_fact (x : Nat) (hx : x < 18446744073709551616) (h0 : 0 < x) : ∃ t P Q R : Nat, tzF 64 x = t ∧ t < 64 ∧ bits BinOp.and IntKind.u64 (x : Int) (IntKind.u64.wrap (-(x : Int))) = (P : Int) ∧
    IntKind.u64.wrap ((P : Int) * 285870213051353865) = (Q : Int) ∧ (Q : Int) / 288230376151711744 = (R : Int) ∧ R < 64 ∧ dbAt R = t := by
  have hl := lowbit x h0 hx
  have ht := (tzF_spec 64 x h0 hx).1
  have hd := dbAt_pow _ ht
  generalize tzF 64 x = t at *
  generalize 2 ^ t = P at *
  refine ⟨t, P, P * 285870213051353865 % 18446744073709551616, _, rfl, ht, ?_, ?_, ?_, ?_, hd⟩
  · rw [u64w_neg x h0 hx, u64_and_nat x _ hx (by omega), hl]
  · rw [IntKind.wrap_u64]; omega
  · omega
  · omega

theorem tz_calls (x : Nat) (w : World) (hx : x < 18446744073709551616) (h0 : 0 < x) (hL : Laid w) : Calls Tryd.prog 135 #[.int .u64 x] w fun e w' => e = .returned (.int .i64 (tzF 64 x)) ∧ w = w' := by
  obtain ⟨t, P, Q, R, e0, ht, b1, b2, b3, b4, hd⟩ := tz_fact x hx h0
  have hc := hL R b4
  rw [hd] at hc
  rw [e0]
  have hb : ((x : Int) == 0) = false := beq_eq_false_iff_ne.2 (by omega)
  have b5 : (R : Int) < 64 := by omega
  have b6 : IntKind.i64.wrap (t : Int) = (t : Int) := IntWalk.i64_in _ (by omega)
  clear hL hd e0
  go_enter Tryd.func135, Tryd.ntmps135
  go_wp2_with fail
  go_ret
  exact ⟨rfl, rfl⟩

theorem down_calls (h l s : Nat) (w : World) (hh : h < 18446744073709551616) (hl : l < 18446744073709551616) (hs : s < 2000) :
    Calls Tryd.prog 106 #[.int .u64 h, .int .u64 l, .int .u64 s] w fun e w' => e = .returned (.int .u64 ((min ((h * 18446744073709551616 + l) / 2 ^ s) 18446744073709551615 : Nat) : Int)) ∧ w = w' := by
  by_cases h1 : 64 ≤ s
  · have HE := Lib.hid (down_hi h l s hh hl h1)
    go_enter Tryd.func106, Tryd.ntmps106
    go_wp2_with fail
    go_ret
    refine ⟨?_, rfl⟩
    rw [← HE.out]
    exact ret_int' (by push_cast; rfl)
  · by_cases hz : h / 2 ^ s = 0
    · obtain ⟨d1, d2, d3⟩ := down_lo h l s hl (by omega) hz
      have hz' : ((h : Int) / 2 ^ s != 0) = false := by
        rw [show (h : Int) / 2 ^ s = ((h / 2 ^ s : Nat) : Int) by push_cast; rfl, hz]; rfl
      have HE : Hid (bits BinOp.or IntKind.u64 (IntKind.u64.wrap (h * 2 ^ (64 - s))) ((l : Int) / 2 ^ s) = ((min ((h * 18446744073709551616 + l) / 2 ^ s) 18446744073709551615 : Nat) : Int)) := by
        show _ = _
        rw [show (h : Int) * 2 ^ (64 - s) = ((h * 2 ^ (64 - s) : Nat) : Int) by push_cast; rfl, u64w_nat, Nat.mod_eq_of_lt d1, show (l : Int) / 2 ^ s = ((l / 2 ^ s : Nat) : Int) by push_cast; rfl,
          u64_or_nat _ _ d1 (Nat.lt_of_le_of_lt (Nat.div_le_self _ _) hl), d3]
      clear d1 d2 d3 hz
      go_enter Tryd.func106, Tryd.ntmps106
      go_wp2_with fail
      go_ret
      refine ⟨?_, rfl⟩
      rw [← HE.out]
      rfl
    · have HE := Lib.hid (down_big h l s (by omega) hz)
      have hz' : ((h : Int) / 2 ^ s != 0) = true := by
        rw [show (h : Int) / 2 ^ s = ((h / 2 ^ s : Nat) : Int) by push_cast; rfl]
        simp only [bne_iff_ne, ne_eq]
        omega
      clear hz
      go_enter Tryd.func106, Tryd.ntmps106
      go_wp2_with fail
      go_ret
      refine ⟨?_, rfl⟩
      rw [← HE.out]
      rfl

theorem up_calls (h l s : Nat) (w : World) (hh : h < 18446744073709551616) (hl : l < 18446744073709551616) (hs : s < 2000) :
    Calls Tryd.prog 107 #[.int .u64 h, .int .u64 l, .int .u64 s] w fun e w' => e = .returned (.int .u64 ((min ((h * 18446744073709551616 + l) * 2 ^ s) 18446744073709551615 : Nat) : Int)) ∧ w = w' := by
  by_cases h0 : h = 0
  · subst h0
    rw [show 0 * 18446744073709551616 + l = l by omega]
    by_cases hl0 : l = 0
    · subst hl0
      rw [Nat.zero_mul]
      go_enter Tryd.func107, Tryd.ntmps107
      go_wp2_with fail
      go_ret
      exact ⟨rfl, rfl⟩
    · have hlb : ((l : Int) == 0) = false := beq_eq_false_iff_ne.2 (by omega)
      have HC := Lib.hid (Tryd.bits_Len64 (l : Int) w (by omega) (by omega))
      have HB : Hid (64 < Lib.bitLen l + s → 18446744073709551615 = min (l * 2 ^ s) 18446744073709551615) := fun h => up_big l s hl h hl0
      have HS : Hid (Lib.bitLen l + s ≤ 64 → l * 2 ^ s < 18446744073709551616 ∧ l * 2 ^ s = min (l * 2 ^ s) 18446744073709551615) := up_small l s hl
      have hlen : Lib.bitLen l ≤ 64 := by
        rcases Nat.lt_or_ge 64 (Lib.bitLen l) with a | a
        · have := (len_spec l hl).2 hl0
          have h3 : 2 ^ 64 ≤ 2 ^ (Lib.bitLen l - 1) := Nat.pow_le_pow_right (by omega) (by omega)
          rw [pow64] at h3
          omega
        · exact a
      rw [Int.toNat_natCast] at HC
      generalize Lib.bitLen l = B at *
      have u1 : IntKind.u64.wrap (B : Int) = (B : Int) := by rw [u64w_nat, Nat.mod_eq_of_lt (by omega)]
      have u2 : IntKind.u64.wrap ((B : Int) + s) = (B : Int) + s := by rw [show (B : Int) + s = ((B + s : Nat) : Int) by omega, u64w_nat, Nat.mod_eq_of_lt (by omega)]
      by_cases hbs : 64 < B + s
      · have u3 : decide ((64 : Int) < (B : Int) + s) = true := by simp; omega
        have HE := Lib.hid (HB.out hbs)
        go_enter Tryd.func107, Tryd.ntmps107
        go_wp2_with fail
        refine HC.out.mono ?_
        rintro e w' ⟨rfl, rfl⟩
        go_wp2_with fail
        go_ret
        refine ⟨?_, rfl⟩
        rw [← HE.out]
        rfl
      · have u3 : decide ((64 : Int) < (B : Int) + s) = false := by simp; omega
        obtain ⟨v1, v2⟩ := HS.out (by omega)
        have HV1 := Lib.hid v1
        have HE := Lib.hid v2
        have hs64 : s ≤ 64 := by omega
        clear v1 v2
        go_enter Tryd.func107, Tryd.ntmps107
        go_wp2_with fail
        refine HC.out.mono ?_
        rintro e w' ⟨rfl, rfl⟩
        go_wp2_with fail
        go_ret
        refine ⟨?_, rfl⟩
        rw [← HE.out]
        refine ret_int' ?_
        first
          | (rw [show (l : Int) * 2 ^ s = ((l * 2 ^ s : Nat) : Int) by push_cast; rfl, u64w_nat, Nat.mod_eq_of_lt HV1.out])
          | (rw [Nat.min_eq_left hs64, show (l : Int) * 2 ^ s = ((l * 2 ^ s : Nat) : Int) by push_cast; rfl, u64w_nat, Nat.mod_eq_of_lt HV1.out])
  · have h0' : ((h : Int) == 0) = false := beq_eq_false_iff_ne.2 (by omega)
    have h1' : ((h : Int) != 0) = true := by simp [bne, h0']
    have HE : Hid (18446744073709551615 = min ((h * 18446744073709551616 + l) * 2 ^ s) 18446744073709551615) := by
      show _ = _
      have : (h * 18446744073709551616 + l) * 1 ≤ (h * 18446744073709551616 + l) * 2 ^ s := Nat.mul_le_mul_left _ (Nat.pow_pos (by omega))
      omega
    go_enter Tryd.func107, Tryd.ntmps107
    go_wp2_with fail
    go_ret
    refine ⟨?_, rfl⟩
    rw [← HE.out]
    rfl

theorem and52 (x : Nat) (hx : x < 18446744073709551616) : bits BinOp.and IntKind.u64 (x : Int) 4503599627370495 = ((x % 4503599627370496 : Nat) : Int) := by
  have h := u64_and_nat x 4503599627370495 hx (by omega)
  rw [show 4503599627370495 = 2 ^ 52 - 1 by decide, Nat.and_two_pow_sub_one_eq_mod] at h
  exact h
theorem or52 (x : Nat) (hx : x < 4503599627370496) : bits BinOp.or IntKind.u64 (x : Int) 4503599627370496 = ((x + 4503599627370496 : Nat) : Int) := by
  have h := u64_or_nat x 4503599627370496 (by omega) (by omega)
  rw [Nat.or_comm, nat_join 52 4503599627370496 x (by decide) hx, Nat.add_comm] at h
  exact h

set_option maxHeartbeats 1000000 in
theorem parts_calls (x : Nat) (w : World) (hx : x < 18446744073709551616) (hL : Laid w) : Calls Tryd.prog 104 #[.int .u64 x] w fun e w' => e = .returned (.tuple #[.int .u64 (prM x), .int .i64 (prE x), .bool (prB x)]) ∧ w = w' := by
  have HL := Lib.hid hL
  clear hL
  by_cases h5 : clsN x = 5
  · obtain ⟨g0, g1⟩ := cls5 hx h5
    obtain ⟨m1, m2, m3⟩ := mant_rng g0 g1
    have ht := (tzF_spec 64 (mantN x) m1 (by omega)).1
    have HM : Hid (prM x = mantN x / 2 ^ tzF 64 (mantN x)) := if_pos h5
    have HE : Hid (prE x = -1074 + (plN x : Int) + (tzF 64 (mantN x) : Int)) := if_pos h5
    have HB : Hid (prB x = true) := decide_eq_true (by omega)
    have HC := Lib.hid h5
    have a1 := and52 x hx
    have a2 : (x : Int) / 4503599627370496 = ((x / 4503599627370496 : Nat) : Int) := by omega
    have HT : Hid (∀ W, Laid W → Calls Tryd.prog 135 #[.int .u64 (mantN x)] W fun e w' => e = .returned (.int .i64 (tzF 64 (mantN x))) ∧ W = w') := fun W h => tz_calls _ W (by omega) m1 h
    have HMD : Hid (mantN x = if x / 4503599627370496 = 0 then x else x % 4503599627370496 + 4503599627370496) := rfl
    have HPD : Hid (plN x = x / 4503599627370496 - 1) := rfl
    generalize tzF 64 (mantN x) = t at *
    have hxq : x = x / 4503599627370496 * 4503599627370496 + x % 4503599627370496 := by omega
    have hr : x % 4503599627370496 < 4503599627370496 := by omega
    have hq : x / 4503599627370496 < 2047 := by omega
    have a3 := or52 _ hr
    clear h5
    by_cases hz : x / 4503599627370496 = 0
    · have hm : mantN x = x % 4503599627370496 := by have := HMD.out; rw [if_pos hz] at this; omega
      have hp : plN x = 0 := by have := HPD.out; omega
      rw [hm] at HM HT m1 m2
      rw [hp] at HE
      rw [hz] at a2
      generalize x % 4503599627370496 = r at *
      clear hxq HMD HPD hm hp m3 a3
      go_enter Tryd.func104, Tryd.ntmps104
      go_wp2_with fail
      refine (class_calls x _ hx).mono ?_
      rintro e w' ⟨rfl, rfl⟩
      rw [HC.out]
      go_wp2_with fail
      refine (HT.out _ HL.out).mono ?_
      rintro e w' ⟨rfl, rfl⟩
      go_wp2_with fail
      go_ret3
      rw [HM.out, HE.out, HB.out]
      refine ⟨?_, rfl⟩
      show Ending.returned (.tuple #[.int .u64 _, .int .i64 _, .bool true]) = _
      congr 4
    · have hm : mantN x = x % 4503599627370496 + 4503599627370496 := by have := HMD.out; rw [if_neg hz] at this; exact this
      have hp : plN x = x / 4503599627370496 - 1 := HPD.out
      rw [hm] at HM HT m1 m2
      rw [hp] at HE
      generalize x % 4503599627370496 = r at *
      generalize x / 4503599627370496 = q at *
      clear hxq HMD HPD hm hp m3
      have q1 : IntKind.i64.wrap (q : Int) = (q : Int) := IntWalk.i64_in _ (by omega)
      have q2 : decide ((0 : Int) < (q : Int)) = true := by simp; omega
      generalize hM : r + 4503599627370496 = M at *
      clear hM
      go_enter Tryd.func104, Tryd.ntmps104
      go_wp2_with fail
      refine (class_calls x _ hx).mono ?_
      rintro e w' ⟨rfl, rfl⟩
      rw [HC.out]
      go_wp2_with fail
      refine (HT.out _ HL.out).mono ?_
      rintro e w' ⟨rfl, rfl⟩
      go_wp2_with fail
      go_ret3
      rw [HM.out, HE.out, HB.out]
      refine ⟨?_, rfl⟩
      show Ending.returned (.tuple #[.int .u64 _, .int .i64 _, .bool true]) = _
      rw [show ((q - 1 : Nat) : Int) = (q : Int) - 1 by omega]
      congr 4
  · have HM : Hid (prM x = 0) := if_neg h5
    have HE : Hid (prE x = 0) := if_neg h5
    have HB : Hid (prB x = decide (clsN x = 3 ∨ clsN x = 4)) := by show _ = _; unfold prB; simp [h5]
    have HC := Lib.hid (cls_dom hx)
    have H5 := Lib.hid h5
    clear h5
    go_enter Tryd.func104, Tryd.ntmps104
    go_wp2_with fail
    refine (class_calls x _ hx).mono ?_
    rintro e w' ⟨rfl, rfl⟩
    generalize hq : clsN x = q at *
    clear hq
    rcases HC.out with rfl | rfl | rfl | rfl | rfl | rfl | rfl
    case inr.inr.inr.inr.inr.inl => exact absurd rfl H5.out
    all_goals
      go_wp2_with fail
      go_ret3
      rw [HM.out, HE.out, HB.out]
      exact ⟨rfl, rfl⟩
end Go.Proofs.YtkbjnlbbfapgdaaDoor
