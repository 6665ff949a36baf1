/- The contract of ref06.Due; the walk of PriceDue. -/
import Derived.Test.YtkbjnlbbfapgdaaDoorPriceC
set_option maxRecDepth 100000
set_option exponentiation.threshold 3000
set_option linter.unusedVariables false
set_option linter.unusedSimpArgs false
namespace Go.Proofs.YtkbjnlbbfapgdaaDoor
open Go.RowKit

/-- an answer of two values, in a world that has grown -/
def RetT (w : World) (x y : Value) (e : Ending) (w' : World) : Prop := e = .returned (.tuple #[x, y]) ∧ Ext w w'

set_option maxHeartbeats 2000000 in
theorem rdue_calls (n x : Nat) (w : World) (hn : n < 18446744073709551616) (hx : x < 18446744073709551616) : Calls Tryd.prog 48 #[.int .u64 n, .int .u64 x] w (RetT w (.int .u64 (dueV n x)) (.bool (prB x))) := by
  cases hb : prB x
  · have HV : Hid (dueV n x = 0) := by show _ = _; unfold dueV; rw [hb]; rfl
    have HB := Lib.hid hb
    clear hb
    go_enter Tryd.func48, Tryd.ntmps48
    go_wp2_with fail
    refine (rparts_calls x _ hx).mono ?_
    rintro e w' ⟨rfl, rfl⟩
    rw [HB.out]
    go_wp2_with fail
    go_ret2
    rw [HV.out]
    exact ⟨rfl, Ext.refl _⟩
  · have HV : Hid (dueV n x = dueN n x) := by show _ = _; unfold dueV; rw [hb]; rfl
    have HB := Lib.hid hb
    clear hb
    have hm := prM_lt hx
    have he := prE_rng hx
    obtain ⟨E, hE⟩ : ∃ E : Nat, prE x = (E : Int) - 1074 := ⟨(prE x + 1074).toNat, by omega⟩
    have HD : Hid (dueN n x = min (G E (n * prM x)) 18446744073709551615) := by show _ = _; rw [G_due n x E hx hE]; rfl
    obtain ⟨v1, l1, o1⟩ := bitsF_spec 64 n hn
    obtain ⟨v2, l2, o2⟩ := bitsF_spec 64 (prM x) (by omega)
    have V1 := Lib.hid v1
    have V2 := Lib.hid v2
    have O1 := Lib.hid o1
    have O2 := Lib.hid o2
    clear v1 v2 o1 o2
    have hE2 : E ≤ 2200 := by omega
    go_enter Tryd.func48, Tryd.ntmps48
    go_wp2_with fail
    refine (rparts_calls x _ hx).mono ?_
    rintro e w' ⟨rfl, rfl⟩
    rw [HB.out, hE]
    clear hE he
    generalize prM x = m at *
    go_wp2_with fail
    refine (bits_calls n _ hn).mono ?_
    rintro e w1 ⟨A1, c1, rfl, r1, e1⟩
    have R1 := Lib.hid r1
    have E1 := Lib.hid e1
    clear r1 e1
    go_wp2_with fail
    refine (bits_calls m _ (by omega)).mono ?_
    rintro e w2 ⟨A2, c2, rfl, r2, e2⟩
    have R2 := Lib.hid r2
    have R1b := Lib.hid (R1.out.ext e2)
    have E2 := Lib.hid (E1.out.trans e2)
    clear r2 e2 R1 E1
    generalize bitsF 64 n = la at *
    generalize bitsF 64 m = lb at *
    go_wp2_with fail
    refine (product_calls A1 A2 c1 c2 la lb _ R1b.out R2.out l1 l2 O1.out O2.out).mono ?_
    rintro e w3 ⟨p, hpv, hp1, hpl, A3, c3, rfl, r3, e3⟩
    have HPV : Hid (valL p = n * m) := by show _ = _; rw [hpv, V1.out, V2.out]
    have HP1 := Lib.hid hp1
    have R3 := Lib.hid r3
    have E3 := Lib.hid (E2.out.trans e3)
    have hpl2 : p.length ≤ 129 := by omega
    clear hpv hp1 r3 e3 hpl R1b R2 V1 V2 O1 O2 E2
    go_wp2_with fail
    go_loop [10, 11] (fun o i => ∃ (r S : Nat), r ≤ p.length ∧ i = .int .i64 ((r : Int) - 1) ∧ o = .int .u64 S ∧ S = G (r + E) (valL (p.drop r)) ∧ S < 18446744073709551616) (fun _ i => (intOf i + 1).toNat)
    case atStart => exact ⟨p.length, 0, Nat.le_refl _, by go_num, rfl, by rw [List.drop_length]; simp [valL, G], by omega⟩
    case round =>
      obtain ⟨r, S, hr, rfl, rfl, hS, hS2⟩ := hrel
      have HS := Lib.hid hS
      clear hS
      by_cases h0 : r = 0
      · have HF : Hid (dueN n x = S) := by
          show _ = _
          rw [HD.out, HS.out, ← HPV.out, h0, List.drop_zero, Nat.zero_add]
          have := HS.out
          rw [h0, List.drop_zero, Nat.zero_add] at this
          omega
        subst h0
        rw [show ((0 : Nat) : Int) - 1 = -1 from rfl]
        go_wp2_with fail
        go_ret2
        rw [HV.out, HF.out]
        exact ⟨rfl, E3.out⟩
      · obtain ⟨k, rfl⟩ : ∃ k, r = k + 1 := ⟨r - 1, by omega⟩
        have hkp : k < p.length := by omega
        obtain ⟨ad, rfl, hc⟩ := rdI R3.out hkp
        have hb1 := HP1.out _ (List.getElem_mem hkp)
        have HDV := Lib.hid (valL_drop p k hkp)
        have HBG : Hid (∀ t, p[k] = 1 → k + E = 1074 + t → 63 < t → 18446744073709551616 ≤ G E (valL p)) := fun t h1 h2 h3 => G_big p k E t hkp h1 h2 h3
        generalize p[k] = b at *
        have HS2 : Hid (S = G (k + E) (2 * valL (p.drop (k + 1)))) := by
          show _ = _
          rw [HS.out, show k + 1 + E = (k + E) + 1 by omega, G_succ]
        clear HS
        have k0 : ((k + 1 : Nat) : Int) - 1 = (k : Int) := by omega
        rw [k0]
        have k1 : IntKind.i64.wrap ((k : Int) + ((E : Int) - 1074)) = (k : Int) + ((E : Int) - 1074) := IntWalk.i64_in _ (by omega)
        have k3 : (k : Int) < p.length := by omega
        clear k0
        by_cases hb0 : b = 0
        · have HN : Hid (S = G (k + E) (valL (p.drop k))) := by show _ = _; rw [HDV.out, hb0, Nat.zero_add]; exact HS2.out
          subst hb0
          go_wp2_with fail
          go_round
          case rel => exact ⟨k, S, by omega, by go_num, rfl, HN.out, hS2⟩
          case measure => first | (simp [intOf]; done) | (simp [intOf]; omega)
        · have hb2 : b = 1 := by omega
          have hbb : ((b : Int) == 0) = false := beq_eq_false_iff_ne.2 (by omega)
          by_cases hlow : k + E < 1074
          · have HN : Hid (S = G (k + E) (valL (p.drop k))) := by show _ = _; rw [HDV.out, G_low _ _ _ hlow hb1]; exact HS2.out
            have c1 : decide ((k : Int) + ((E : Int) - 1074) < 0) = true := by simp; omega
            clear hb2
            go_wp2_with fail
            go_round
            case rel => exact ⟨k, S, by omega, by go_num, rfl, HN.out, hS2⟩
            case measure => first | (simp [intOf]; done) | (simp [intOf]; omega)
          · obtain ⟨t, ht⟩ : ∃ t, k + E = 1074 + t := ⟨k + E - 1074, by omega⟩
            have k2 : (k : Int) + ((E : Int) - 1074) = (t : Int) := by omega
            rw [k2] at k1
            by_cases hbig : 63 < t
            · have HF : Hid (dueN n x = 18446744073709551615) := by
                show _ = _
                have := HBG.out t hb2 ht hbig
                rw [HD.out, ← HPV.out]
                omega
              have c1 : decide ((63 : Int) < (t : Int)) = true := by simp; omega
              clear hb2
              go_wp2_with fail
              go_ret2
              rw [HV.out, HF.out]
              exact ⟨rfl, E3.out⟩
            · have HN : Hid (S + 2 ^ t = G (k + E) (valL (p.drop k))) := by show _ = _; rw [HDV.out, G_add _ _ _ t ht hb2, ← HS2.out]
              have hfit : S + 2 ^ t < 18446744073709551616 := by
                have := G_fits (k + E) (valL (p.drop (k + 1))) t ht (by omega) (by rw [← HS2.out]; exact hS2)
                rw [← HS2.out] at this
                exact this
              have c1 : decide ((63 : Int) < (t : Int)) = false := by simp; omega
              have ht64 : t ≤ 63 := by omega
              clear hb2 HBG
              have u1 : IntKind.u64.wrap (t : Int) = (t : Int) := IntWalk.u64_in _ (by omega)
              obtain ⟨T, hT⟩ : ∃ T : Nat, 2 ^ t = T := ⟨_, rfl⟩
              have hpow : (2 : Int) ^ t = (T : Int) := by rw [← hT]; push_cast; rfl
              rw [hT] at hfit HN
              clear hT
              have u2 : IntKind.u64.wrap (T : Int) = (T : Int) := IntWalk.u64_in _ (by omega)
              have u3 : IntKind.u64.wrap ((S : Int) + T) = (S : Int) + T := IntWalk.u64_in _ (by omega)
              go_wp2_with fail
              go_round
              case rel => exact ⟨k, S + T, by omega, by go_num, by go_num, HN.out, hfit⟩
              case measure => first | (simp [intOf]; done) | (simp [intOf]; omega)

theorem pcV_ok {x : Nat} (h : prB x = true) : pcV x = canonN x := by
  unfold pcV prB at *
  rw [if_pos (of_decide_eq_true h)]
theorem pcV_bad {x : Nat} (h : prB x = false) : pcV x = 0 := by
  unfold pcV prB at *
  rw [if_neg (of_decide_eq_false h)]

end Go.Proofs.YtkbjnlbbfapgdaaDoor
