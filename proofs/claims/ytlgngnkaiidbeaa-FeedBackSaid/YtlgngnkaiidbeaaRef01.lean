/- Contracts of taximeterref01. -/
import Derived.Test.YtlgngnkaiidbeaaMem
import Derived.Test.YtlgngnkaiidbeaaPlain
set_option maxRecDepth 100000
set_option linter.unusedVariables false
set_option linter.unusedSimpArgs false
namespace Go.Proofs.Ytlgngnkaiidbeaa
open Go.RowKit

theorem ret_int {k : IntKind} {a b : Int} (h : a = b) : Ending.returned (.int k a) = .returned (.int k b) := by rw [h]

set_option maxHeartbeats 400000 in
theorem same_calls (A B : Option Addr) (c d : Nat) (xs ys : List UInt8) (w : World) (ha : RdB w A xs) (hb : RdB w B ys)
   (hx : xs.length ≤ 1000000) (_hy : ys.length ≤ 1000000) :
   Calls Try.prog 22 #[.slice A xs.length c, .slice B ys.length d] w fun e w' => e = .returned (.bool (decide (xs = ys))) ∧ ∃ n, w' = w.drewN n := by
  by_cases hl : xs.length = ys.length
  · have HL := Lib.hid hl
    have h0 : ((xs.length : Int) != (ys.length : Int)) = false := by simp [hl]
    clear hl
    have Ha := Lib.hid ha
    have Hb := Lib.hid hb
    clear ha hb
    go_enter Try.func22, Try.ntmps22
    go_wp2
    go_loopw [5] (fun i wr => ∃ k n : Nat, k ≤ xs.length ∧ i = .int .i64 k ∧ wr = w.drewN n ∧ xs.take k = ys.take k) (fun i _ => xs.length - (intOf i).toNat)
    case atStart => exact ⟨0, 0, by omega, rfl, rfl, by simp⟩
    case round =>
      obtain ⟨k, n, hk, rfl, rfl, ht⟩ := hrel
      have Ht := Lib.hid ht
      clear ht
      by_cases hlt : k < xs.length
      · have hlt' : k < ys.length := by have := HL.out; omega
        obtain ⟨ad, rfl, hca⟩ := (Ha.out).at_ hlt
        obtain ⟨bd, rfl, hcb⟩ := (Hb.out).at_ hlt'
        by_cases he : xs[k] = ys[k]
        · have he' : ((xs[k].toNat : Int) != (ys[k].toNat : Int)) = false := by simp [he]
          have He := Lib.hid he
          clear he
          go_wp2
          go_quiet (fail)
          go_wp2
          go_roundw
          case rel => exact ⟨k+1, _, by omega, by go_num, rfl, by rw [List.take_succ_eq_append_getElem hlt, List.take_succ_eq_append_getElem hlt', Ht.out, He.out]⟩
          case measure => simp [intOf]; omega
        · have he' : ((xs[k].toNat : Int) != (ys[k].toNat : Int)) = true := by
            simp; intro h; exact he (UInt8.toNat.inj (by omega))
          have He := Lib.hid he
          clear he
          go_wp2
          go_quiet (fail)
          go_wp2
          go_ret
          refine ⟨?_, _, World.drewN_drewN _ _ _⟩
          have : xs ≠ ys := fun h => He.out (by simp [h])
          simp [this]
      · go_wp2
        go_ret
        refine ⟨?_, _, rfl⟩
        have : xs = ys := by
          have h := Ht.out
          rwa [List.take_of_length_le (by omega), List.take_of_length_le (by have := HL.out; omega)] at h
        simp [this]
  · have h0 : ((xs.length : Int) != (ys.length : Int)) = true := by simp; omega
    have HL := Lib.hid hl
    clear hl
    have Ha := Lib.hid ha
    have Hb := Lib.hid hb
    clear ha hb
    go_enter Try.func22, Try.ntmps22
    go_wp2
    go_ret
    refine ⟨?_, 0, rfl⟩
    have : xs ≠ ys := fun h => HL.out (by simp [h])
    simp [this]

theorem sameE (A B : Option Addr) (c d : Nat) (xs ys : List UInt8) (w : World) (ha : RdB w A xs) (hb : RdB w B ys)
   (hx : xs.length ≤ 1000000) (hy : ys.length ≤ 1000000) :
   Calls Try.prog 22 #[.slice A xs.length c, .slice B ys.length d] w (RetV w (.bool (decide (xs = ys)))) :=
  (same_calls A B c d xs ys w ha hb hx hy).mono fun _ _ ⟨h, n, hw⟩ => ⟨h, by rw [hw]; exact (Ext.refl w).drewN n⟩

theorem ofNat_toNat (q : Nat) : (((UInt8.ofNat q).toNat : Nat) : Int) = (q : Int) % 256 := by
  rw [UInt8.toNat_ofNat']; omega

set_option maxHeartbeats 400000 in
theorem bytes_calls (k n : Nat) (w : World) (hk : k ≤ 8) (hn : n < 18446744073709551616) :
   Calls Try.prog 120 #[.int .i64 k, .int .u64 n] w (RetB w (leB k n)) := by
  go_enter Try.func120, Try.ntmps120
  go_wp2
  go_loopw [1, 5, 6] (fun m out i wr => ∃ (j q : Nat) (A : Option Addr) (c : Nat), j ≤ k ∧ i = .int .i64 j ∧ q = n / 256 ^ j ∧ m = .int .u64 q ∧ out = .slice A (leB j n).length c ∧ OwnB wr w.heap.size A c (leB j n) ∧ Ext w wr) (fun _ _ i _ => k - (intOf i).toNat)
  case atStart => exact ⟨0, n, none, 0, by omega, rfl, by simp, rfl, rfl, OwnB.nil _ _, Ext.refl _⟩
  case round =>
    obtain ⟨j, q, A, c, hj, rfl, hq, rfl, rfl, hown, hext⟩ := hrel
    have hqn : q ≤ n := hq ▸ Nat.div_le_self _ _
    have hq64 : q < 18446744073709551616 := by omega
    have HQ := Lib.hid hq
    have H1 := Lib.hid hown
    have H2 := Lib.hid hext
    have hLl : (leB j n).length ≤ 8 := by rw [leB_length]; omega
    generalize hL : leB j n = L at *
    have HL := Lib.hid hL
    clear hL hq hown hext
    by_cases hlt : j < k
    · go_wp2_with (at_builtin; refine appB _ rfl (.tmp 12) (.tmp 16) rfl w.heap.size A c L rfl _ _ [UInt8.ofNat q] rfl ?_ (OwnB.ext H1.out ((Ext.refl _).alloc _)) (RdB.one _ _ _ _ ?c1) ?c2 ?c3; intro A' c' w' h1 h2 h3)
      case c1 => rw [ofNat_toNat]
      case c2 => simp; omega
      case c3 => simp; have := H2.out.size; omega
      go_roundw
      case rel =>
        refine ⟨j + 1, q / 256, A', c', by omega, by go_num, ?_, ?_, ?_, ?_, ?_⟩
        · rw [HQ.out, Nat.pow_succ, Nat.div_div_eq_div_mul]
        · go_num
        · rw [leB_snoc, HL.out]; simp
        · rw [leB_snoc, HL.out, ← HQ.out]; exact h1
        · exact (H2.out.alloc _).grown h2 (fun g hg => (H1.out.base_ g hg).1)
      case measure => simp [intOf]; omega
    · go_wp2
      go_ret
      obtain rfl : j = k := by omega
      exact ⟨A, c, by rw [HL.out]; rfl, by rw [HL.out]; exact H1.out, H2.out⟩

theorem leN_lt8 (bs : List UInt8) (hl : bs.length ≤ 8) : leN bs < 18446744073709551616 :=
  Nat.lt_of_lt_of_le (leN_lt bs) (Nat.pow_le_pow_right (n := 256) (j := 8) (by omega) hl)
end Go.Proofs.Ytlgngnkaiidbeaa
