/- ShareSpreads: the walk of the law, but for its 'awake'. -/
import Derived.Test.YtlgngnkaiidbeaaSpreadA
set_option maxRecDepth 100000
set_option exponentiation.threshold 3000
set_option linter.unusedVariables false
set_option linter.unusedSimpArgs false
namespace Go.Proofs.Ytlgngnkaiidbeaa
open Go.RowKit

def sumN (f : Nat → Nat) : Nat → Nat
  | 0 => 0
  | m + 1 => sumN f m + f m
theorem sumN_add (f g : Nat → Nat) (m : Nat) : sumN (fun j => f j + g j) m = sumN f m + sumN g m := by
  induction m with
  | zero => rfl
  | succ m ih => simp only [sumN, ih]; omega
theorem sumN_ind (P m : Nat) : sumN (fun j => if P = j then 1 else 0) m = if P < m then 1 else 0 := by
  induction m with
  | zero => rfl
  | succ m ih =>
    simp only [sumN, ih]
    by_cases h : P = m
    · subst h; simp
    · by_cases h2 : P < m
      · rw [if_pos h2, if_neg h, if_pos (by omega)]
      · rw [if_neg h2, if_neg h, if_neg (by omega)]
theorem sumN_zero (m : Nat) : sumN (fun _ => 0) m = 0 := by
  induction m with
  | zero => rfl
  | succ m ih => simp only [sumN, ih]
theorem cntN_cons (xs : List Nat) (x n j : Nat) : cntN (x :: xs) n j = cntN xs n j + (if pickN x (n : Int) = (j : Int) then 1 else 0) := by
  unfold cntN
  rw [List.countP_cons]
  simp
theorem sum_le (xs : List Nat) (n m : Nat) : sumN (cntN xs n) m ≤ xs.length := by
  induction xs with
  | nil => rw [show cntN [] n = fun _ => 0 from rfl, sumN_zero]; exact Nat.zero_le _
  | cons x xs ih =>
    by_cases h : ∃ P : Nat, pickN x (n : Int) = (P : Int)
    · obtain ⟨P, hP⟩ := h
      have e : cntN (x :: xs) n = fun j => cntN xs n j + (if P = j then 1 else 0) := by
        funext j; rw [cntN_cons, hP]
        by_cases e : P = j
        · rw [if_pos (by omega), if_pos e]
        · rw [if_neg (by omega), if_neg e]
      rw [e, sumN_add, sumN_ind, List.length_cons]
      split <;> omega
    · have e : cntN (x :: xs) n = cntN xs n := by
        funext j; rw [cntN_cons, if_neg (fun k => h ⟨j, k⟩)]; rfl
      rw [e, List.length_cons]; omega
theorem sum_all (xs : List Nat) (n : Nat) (h1 : 1 ≤ n) (hx : ∀ x ∈ xs, x < 18446744073709551616) : sumN (cntN xs n) n = xs.length := by
  induction xs with
  | nil => rw [show cntN [] n = fun _ => 0 from rfl, sumN_zero]; rfl
  | cons x xs ih =>
    have hp := pick_rng (n := (n : Int)) (hx x List.mem_cons_self) (by omega)
    obtain ⟨P, hP⟩ : ∃ P : Nat, pickN x (n : Int) = (P : Int) := ⟨(pickN x (n : Int)).toNat, by omega⟩
    have e : cntN (x :: xs) n = fun j => cntN xs n j + (if P = j then 1 else 0) := by
      funext j; rw [cntN_cons, hP]
      by_cases e : P = j
      · rw [if_pos (by omega), if_pos e]
      · rw [if_neg (by omega), if_neg e]
    rw [e, sumN_add, sumN_ind, List.length_cons, if_pos (by omega), ih (fun y h => hx y (List.mem_cons_of_mem _ h))]

theorem spread_none (n : Int) (v : Value) (w : World) (h : n < 1 ∨ 4096 < n) : Calls Try.prog 64 #[.int .i64 n, v] w fun e w' => e = .returned (.slice none 0 0) ∧ w = w' := by
  by_cases h1 : n < 1
  · go_enter Try.func64, Try.ntmps64
    go_wp2_with fail
    go_ret
    exact ⟨rfl, rfl⟩
  · have h2 : 4096 < n := by omega
    go_enter Try.func64, Try.ntmps64
    go_wp2_with fail
    go_ret
    exact ⟨rfl, rfl⟩

set_option maxHeartbeats 4000000 in
theorem shareSpreads_of (HAW : Hid (∀ W, Calls Try.prog 58 #[] W (RetV W (.bool true)))) (xs : List Nat) (n : Int) (c : Nat) (A : Option Addr) (w : World) (hn0 : -9223372036854775808 ≤ n) (hn1 : n < 9223372036854775808) (hc : xs.length ≤ c) (hc2 : c ≤ 9223372036854775807) (hx : ∀ x ∈ xs, x < 18446744073709551616) (hR : Rd w A (xs.map uv)) :
    Calls Try.prog 12 #[.int .i64 n, .slice A xs.length c] w (RetV w (.bool true)) := by
  by_cases hbig : 100 < xs.length
  · clear hn0 hn1 hx hR
    go_enter Try.func12, Try.ntmps12
    go_wp2_with fail
    refine (HAW.out _).mono ?_
    rintro e w' ⟨rfl, x1⟩
    have X := Lib.hid x1
    clear x1
    go_wp2_with fail
    go_ret
    exact ⟨rfl, X.out⟩
  by_cases hbig2 : 5000 < n
  · clear hn0 hn1 hx hR
    go_enter Try.func12, Try.ntmps12
    go_wp2_with fail
    refine (HAW.out _).mono ?_
    rintro e w' ⟨rfl, x1⟩
    have X := Lib.hid x1
    clear x1
    go_wp2_with fail
    go_ret
    exact ⟨rfl, X.out⟩
  clear hn1
  by_cases hrng : n < 1 ∨ 4096 < n
  · have HS : Hid (∀ W, Calls Try.prog 64 #[.int .i64 n, .slice A xs.length c] W fun e w' => e = .returned (.slice none 0 0) ∧ W = w') := fun W => spread_none n _ W hrng
    clear hn0 hx hR
    rcases hrng with h | h
    all_goals
      go_enter Try.func12, Try.ntmps12
      go_wp2_with fail
      refine (HS.out _).mono ?_
      rintro e w' ⟨rfl, rfl⟩
      go_wp2_with fail
      refine (HAW.out _).mono ?_
      rintro e w' ⟨rfl, x1⟩
      have X := Lib.hid x1
      clear x1
      go_wp2_with fail
      go_ret
      exact ⟨rfl, X.out⟩
  obtain ⟨N, rfl⟩ : ∃ N : Nat, n = (N : Int) := ⟨n.toNat, by omega⟩
  have hN1 : 1 ≤ N := by omega
  have hN2 : N ≤ 4096 := by omega
  have hl : xs.length ≤ 100 := by omega
  have HX := Lib.hid hx
  have HR := Lib.hid hR
  clear hn0 hbig hbig2 hrng hx hR
  go_enter Try.func12, Try.ntmps12
  go_wp2_with fail
  refine (spread_calls xs N c A _ hN1 hN2 hl hc HX.out HR.out).mono ?_
  rintro e w1 ⟨g, rfl, ha, he, hg⟩
  have HA := Lib.hid ha
  have HE := Lib.hid he
  clear ha he hg
  go_wp2_with fail
  go_loop [6, 7] (fun s i => ∃ k : Nat, i = .int .i64 (k : Int) ∧ k ≤ N ∧ s = .int .i64 ((sumN (cntN xs N) k : Nat) : Int)) (fun _ i => (N - intOf i).toNat)
  case atStart => exact ⟨0, rfl, by omega, rfl⟩
  case round =>
    obtain ⟨k, rfl, hk, rfl⟩ := hrel
    have hs := sum_le xs N k
    by_cases hlt : k < N
    · have c0 : w1.cell? ⟨g, k, none⟩ = some (.int .i64 ((cntN xs N k : Nat) : Int)) := HA.out.cell_some (by rw [List.getElem?_toArray, spL_get _ hlt]; rfl)
      have hcl : cntN xs N k ≤ xs.length := cntN_le _ _ _
      have HSM : Hid (sumN (cntN xs N) (k + 1) = sumN (cntN xs N) k + cntN xs N k) := rfl
      generalize sumN (cntN xs N) k = s at *
      generalize cntN xs N k = q at *
      go_wp2_with fail
      go_round
      case rel => exact ⟨k + 1, by go_num, by omega, by rw [HSM.out]; go_num⟩
      case measure => simp [intOf]; omega
    · have hk2 : k = N := by omega
      subst hk2
      rw [sum_all xs k hN1 HX.out]
      clear hs hlt
      go_wp2_with fail
      go_loop [8] (fun i => ∃ m : Nat, i = .int .i64 (m : Int) ∧ m ≤ xs.length) (fun i => (xs.length - intOf i).toNat)
      case atStart => exact ⟨0, rfl, by omega⟩
      case round =>
        obtain ⟨m, rfl, hm⟩ := hrel
        by_cases hlt : m < xs.length
        · obtain ⟨ad, rfl, hcell⟩ := (HR.out.ext HE.out).at_ (k := m) (by rw [List.length_map]; exact hlt)
          rw [List.getElem_map] at hcell
          have hcell : w1.cell? (ad.add m) = some (.int .u64 ((xs[m] : Nat) : Int)) := hcell
          have hxk := HX.out xs[m] (List.getElem_mem hlt)
          have hp := pick_rng (n := (k : Int)) hxk (by omega)
          obtain ⟨P, hP⟩ : ∃ P : Nat, pickN xs[m] (k : Int) = (P : Int) := ⟨(pickN xs[m] (k : Int)).toNat, by omega⟩
          have hPn : P < k := by omega
          have HC : Hid (∀ W, Calls Try.prog 26 #[.int .u64 ((xs[m] : Nat) : Int), .int .i64 (k : Int)] W fun e w' => e = .returned (.int .i64 (P : Int)) ∧ W = w') := fun W => by
            have := rpick_calls xs[m] (k : Int) W hxk (by omega) (by omega)
            rw [hP] at this
            exact this
          clear hp hP
          generalize xs[m] = x at *
          go_wp2_with fail
          refine (HC.out _).mono ?_
          rintro e w' ⟨rfl, rfl⟩
          clear hcell
          go_wp2_with fail
          go_loop [10, 11] (fun s i => ∃ j : Nat, i = .int .i64 (j : Int) ∧ j ≤ xs.length ∧ s = .int .i64 ((cntN (xs.take j) k P : Nat) : Int)) (fun _ i => (xs.length - intOf i).toNat)
          case atStart => exact ⟨0, rfl, by omega, rfl⟩
          case round =>
            obtain ⟨j, rfl, hj, rfl⟩ := hrel
            by_cases hlj : j < xs.length
            · obtain ⟨ad2, e2, hcell⟩ := (HR.out.ext HE.out).at_ (k := j) (by rw [List.length_map]; exact hlj)
              cases e2
              rw [List.getElem_map] at hcell
              have hcell : w1.cell? (ad.add j) = some (.int .u64 ((xs[j] : Nat) : Int)) := hcell
              have hxj := HX.out xs[j] (List.getElem_mem hlj)
              have hp := pick_rng (n := (k : Int)) hxj (by omega)
              have hcl : cntN (xs.take j) k P ≤ 100 := Nat.le_trans (cntN_le _ _ _) (by rw [List.length_take]; omega)
              have HC2 : Hid (∀ W, Calls Try.prog 26 #[.int .u64 ((xs[j] : Nat) : Int), .int .i64 (k : Int)] W fun e w' => e = .returned (.int .i64 (pickN xs[j] (k : Int))) ∧ W = w') := fun W => rpick_calls xs[j] (k : Int) W hxj (by omega) (by omega)
              have HT : Hid (cntN (xs.take (j + 1)) k P = cntN (xs.take j) k P + (if pickN xs[j] (k : Int) = (P : Int) then 1 else 0)) := by
                show _ = _
                rw [List.take_succ_eq_append_getElem hlj, cntN_snoc]
              generalize pickN xs[j] (k : Int) = z at *
              generalize xs[j] = y at *
              generalize cntN (xs.take j) k P = q at *
              by_cases hz : z = (P : Int)
              · have HT2 := Lib.hid (HT.out.trans (by rw [if_pos hz]))
                clear HT
                subst hz
                go_wp2_with fail
                refine (HC2.out _).mono ?_
                rintro e w' ⟨rfl, rfl⟩
                go_wp2_with fail
                go_round
                case rel => exact ⟨j + 1, by go_num, by omega, by rw [HT2.out]; go_num⟩
                case measure => simp [intOf]; omega
              · have HT2 := Lib.hid (HT.out.trans (by rw [if_neg hz]))
                have hzb : (z == (P : Int)) = false := beq_eq_false_iff_ne.2 hz
                clear HT
                go_wp2_with fail
                refine (HC2.out _).mono ?_
                rintro e w' ⟨rfl, rfl⟩
                go_wp2_with fail
                go_round
                case rel => exact ⟨j + 1, by go_num, by omega, by rw [HT2.out]; go_num⟩
                case measure => simp [intOf]; omega
            · have ej : j = xs.length := by omega
              subst ej
              rw [List.take_length]
              have c0 : w1.cell? ⟨g, P, none⟩ = some (.int .i64 ((cntN xs k P : Nat) : Int)) := HA.out.cell_some (by rw [List.getElem?_toArray, spL_get _ hPn]; rfl)
              have hcl : cntN xs k P ≤ xs.length := cntN_le _ _ _
              generalize cntN xs k P = q at *
              go_wp2_with fail
              go_round
              case rel => exact ⟨m + 1, by go_num, by omega⟩
              case measure => simp [intOf]; omega
        · have em : m = xs.length := by omega
          subst em
          go_wp2_with fail
          refine (HAW.out _).mono ?_
          rintro e w' ⟨rfl, x1⟩
          have X := Lib.hid x1
          clear x1
          go_wp2_with fail
          go_ret
          exact ⟨rfl, HE.out.trans X.out⟩
end Go.Proofs.Ytlgngnkaiidbeaa
