/- IdleOften, walked. -/
import Derived.Test.YtlgngnkaiidbeaaIdleH
set_option maxRecDepth 100000
set_option linter.unusedVariables false
set_option linter.unusedSimpArgs false
namespace Go.Proofs.Ytlgngnkaiidbeaa
open Go.RowKit Go.Shelf

/-- the last loop: what is known of k ticks behind the last touch (one more) -/
def OfI (kk : PK) (k : Nat) (x : PL) (t : Int) : Prop := (k ≤ 10 ∧ x = [(kk, k - 1)] ∧ t = 0) ∨ (10 < k ∧ x = [] ∧ t = 1)
set_option maxHeartbeats 16000000 in
theorem idleOften_walk (a b : Int) (A : Option Addr) (c : Nat) (bs : List UInt8) (w : World) (hb : RdB w A bs) (hlm : bs.length ≤ 9223372036854775807) :
    Calls Try.prog 10 #[.int .i64 a, .int .i64 b, .slice A bs.length c] w (RetV w (.bool true)) := by
  by_cases hbig : 40 < bs.length
  · clear hb
    go_enter Try.func10, Try.ntmps10
    go_wp2_with fail
    refine (awake29 _).mono ?_
    rintro e w' ⟨rfl, x1⟩
    have X := Lib.hid x1
    clear x1
    go_wp2_with fail
    go_ret
    exact ⟨rfl, X.out⟩
  have hl : bs.length ≤ 40 := by omega
  have HB := Lib.hid hb
  clear hb hbig hlm
  go_enter Try.func10, Try.ntmps10
  go_wp2_with fail
  refine (wnew_calls w).mono ?_
  rintro e w1 ⟨gw, gm, rfl, h1⟩
  have W1 := Lib.hid h1
  clear h1
  go_wp2_with fail
  go_loopw [8] (fun i wr => ∃ k now : Nat, ∃ x : PL, k ≤ bs.length ∧ i = .int .i64 (k : Int) ∧ WS w wr gw gm now x ∧ (∀ q ∈ x, q.1 = (a, b)) ∧ now ≤ 10 * k) (fun i _ => bs.length - (intOf i).toNat)
  case atStart => exact ⟨0, 0, [], by omega, rfl, W1.out, by simp, Nat.le_refl _⟩
  case round =>
    obtain ⟨k, now, x, hk, rfl, hw, hx, hn⟩ := hrel
    have WR := Lib.hid hw
    have HX := Lib.hid (touch_one (a, b) x hx)
    have HNW := Lib.hid hn
    clear hw hx hn
    by_cases hlt : k < bs.length
    · have k1 : (k : Int) < (bs.length : Int) := by omega
      obtain ⟨wA, rfl⟩ : ∃ v, v = wr := ⟨wr, rfl⟩
      go_wp2_with fail
      refine (show Calls Try.prog 47 #[.pointer (some ⟨gw, 0, none⟩), .int .i64 a, .int .i64 b] _ _ from wtouch_calls (a, b) WR.out).mono ?_
      rintro e w2 ⟨rfl, h2, _⟩
      rw [HX.out] at h2
      have W2 := Lib.hid h2
      clear h2
      go_wp2_with fail
      go_loopw [9] (fun i wr => ∃ j now2 : Nat, i = .int .i64 (j : Int) ∧ j ≤ 9 ∧ WS w wr gw gm now2 [((a, b), j)] ∧ now2 ≤ now + j) (fun i _ => 10 - (intOf i).toNat)
      case atStart => exact ⟨0, now, rfl, by omega, W2.out, Nat.le_refl _⟩
      case round =>
        obtain ⟨j, now2, rfl, hj, hw3, hn2⟩ := hrel
        have W3 := Lib.hid hw3
        have HN2 := Lib.hid hn2
        have HTI := Lib.hid (wtick_calls hw3 (by simp) (by have := HNW.out; omega))
        have HRB : Hid (RdB wr A bs) := HB.out.ext hw3.e
        clear hw3 hn2
        obtain ⟨ad, rfl, x0⟩ := RdB.at_ HRB.out hlt
        generalize bs[k] = v at *
        obtain ⟨m, hm⟩ : ∃ m, m = v.toNat % 10 := ⟨_, rfl⟩
        have q1 : ((v.toNat : Int)).tmod 10 = (m : Int) := by rw [hm]; exact (Int.ofNat_tmod v.toNat 10).symm
        have q2 : IntKind.i64.wrap (v.toNat : Int) = (v.toNat : Int) := by have := v.toNat_lt; rw [IntWalk.i64_in _ (by omega)]
        have HM : Hid (m ≤ 9) := by show m ≤ 9; omega
        clear hm
        by_cases hjm : j < m
        · have j1 : (j : Int) < (m : Int) := by omega
          rw [told_one, stay_one, if_neg (by have := HM.out; omega), if_pos (by have := HM.out; omega)] at HTI
          go_wp2_with fail
          refine HTI.out.mono ?_
          rintro e w4 ⟨A4, c4, rfl, _, h4, _⟩
          have W4 := Lib.hid h4
          clear h4
          go_wp2_with fail
          go_roundw
          case rel => exact ⟨j + 1, now2 + 1, by go_num, by have := HM.out; omega, W4.out, by have := HN2.out; omega⟩
          case measure => have := HM.out; simp [intOf]; omega
        · have j1 : ¬ (j : Int) < (m : Int) := by omega
          go_wp2_with fail
          go_roundw
          case rel => exact ⟨k + 1, now2, [((a, b), j)], by omega, by go_num, W3.out, by simp, by have := HNW.out; have := HN2.out; omega⟩
          case measure => simp [intOf]; omega
    · have k1 : ¬ (k : Int) < (bs.length : Int) := by omega
      obtain ⟨wA, rfl⟩ : ∃ v, v = wr := ⟨wr, rfl⟩
      have HNW2 : Hid (now ≤ 400) := by have := HNW.out; show now ≤ 400; omega
      go_wp2_with fail
      refine (show Calls Try.prog 47 #[.pointer (some ⟨gw, 0, none⟩), .int .i64 a, .int .i64 b] _ _ from wtouch_calls (a, b) WR.out).mono ?_
      rintro e w2 ⟨rfl, h2, _⟩
      rw [HX.out] at h2
      have W2 := Lib.hid h2
      clear h2 HNW k1 hlt hk
      go_wp2_with fail
      go_loopw [10, 11] (fun t i wr => ∃ k now2 : Nat, ∃ x : PL, ∃ tz : Int, 1 ≤ k ∧ k ≤ 31 ∧ i = .int .i64 (k : Int) ∧ t = .int .i64 tz ∧ WS w wr gw gm now2 x ∧ OfI (a, b) k x tz ∧ now2 ≤ 400 + k) (fun _ i _ => 31 - (intOf i).toNat)
      case atStart => exact ⟨1, now, [((a, b), 0)], 0, by omega, by omega, rfl, rfl, W2.out, .inl ⟨by omega, rfl, rfl⟩, by have := HNW2.out; omega⟩
      case round =>
        obtain ⟨k, now2, x, tz, hk0, hk, rfl, rfl, hw3, hof, hn2⟩ := hrel
        have W3 := Lib.hid hw3
        have HN2 := Lib.hid hn2
        by_cases hlt : k ≤ 30
        · have k1 : (k : Int) ≤ 30 := by omega
          have HTI := Lib.hid (wtick_calls hw3 (by rcases hof with ⟨_, h, _⟩ | ⟨_, h, _⟩ <;> subst h <;> simp) (by omega))
          rcases hof with ⟨h10, rfl, rfl⟩ | ⟨h10, rfl, rfl⟩
          · by_cases h9 : k = 10
            · subst h9
              rw [told_one, stay_one, if_pos (by omega), if_neg (by omega)] at HTI
              clear hw3 hn2
              go_wp2_with fail
              refine HTI.out.mono ?_
              rintro e w4 ⟨A4, c4, rfl, o4, h4, _⟩
              have W4 := Lib.hid h4
              obtain ⟨ad4, rfl, x0, x1⟩ := RdE.pair (show RdE prC w4 A4 [(a, b)] from o4.rd) (i := 0) (by simp)
              simp only [Nat.zero_mul, add_zero', List.getElem_cons_zero] at x0 x1
              have hne := nePr (a, b) (a, b)
              rw [decide_eq_true rfl] at hne
              dsimp only at hne
              clear h4 o4
              go_wp2_with fail
              go_roundw
              case rel => exact ⟨11, now2 + 1, [], 1, by omega, by omega, by go_num, by go_num, W4.out, .inr ⟨by omega, rfl, rfl⟩, by have := HN2.out; omega⟩
              case measure => simp [intOf]
            · rw [told_one, stay_one, if_neg (by omega), if_pos (by omega)] at HTI
              have HKK : Hid (k - 1 + 1 = k + 1 - 1) := by show _ = _; omega
              clear hw3 hn2
              go_wp2_with fail
              refine HTI.out.mono ?_
              rintro e w4 ⟨A4, c4, rfl, _, h4, _⟩
              have W4 := Lib.hid h4
              clear h4
              go_wp2_with fail
              go_roundw
              case rel => exact ⟨k + 1, now2 + 1, [((a, b), k + 1 - 1)], 0, by omega, by omega, by go_num, by go_num, by rw [← HKK.out]; exact W4.out, .inl ⟨by omega, rfl, rfl⟩, by have := HN2.out; omega⟩
              case measure => simp [intOf]; omega
          · rw [show toldP [] = [] from rfl, show stayP [] = [] from rfl] at HTI
            clear hw3 hn2
            go_wp2_with fail
            refine HTI.out.mono ?_
            rintro e w4 ⟨A4, c4, rfl, _, h4, _⟩
            have W4 := Lib.hid h4
            clear h4
            go_wp2_with fail
            go_roundw
            case rel => exact ⟨k + 1, now2 + 1, [], 1, by omega, by omega, by go_num, by go_num, W4.out, .inr ⟨by omega, rfl, rfl⟩, by have := HN2.out; omega⟩
            case measure => simp [intOf]; omega
        · have k1 : ¬ (k : Int) ≤ 30 := by omega
          have ht : tz = 1 := by rcases hof with ⟨h, _, _⟩ | ⟨_, _, h⟩ <;> omega
          subst ht
          clear hof hw3 hn2
          go_wp2_with fail
          refine (nil_touch wr a b).mono ?_
          rintro e w5 ⟨rfl, rfl⟩
          go_wp2_with (first | (go_at_call 49; refine (nil_drop _ a b).mono ?_; rintro e w5 ⟨rfl, rfl⟩) | (go_at_call 54; refine (nil_tick _).mono ?_; rintro e w6 ⟨rfl, e6⟩; have E6 := Lib.hid (W3.out.e.trans e6); clear e6) | (go_at_call 57; refine (nil_now _).mono ?_; rintro e w7 ⟨rfl, rfl⟩) | (go_at_call 55; refine (nil_keys _).mono ?_; rintro e w8 ⟨rfl, rfl⟩) | (go_at_call 45; refine (awake29 _).mono ?_; rintro e w9 ⟨rfl, e9⟩; have E9 := Lib.hid (E6.out.trans e9); clear e9))
          go_ret
          exact ⟨rfl, E9.out⟩
end Go.Proofs.Ytlgngnkaiidbeaa
