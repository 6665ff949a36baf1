/- Contracts of package crc and of ref02.Sum. -/
import Derived.Test.YtjbejaieihchmaaOctet
import Derived.Test.YtjbejaieihchmaaPlainCrc
import Derived.Laws.BitsAll
import Derived.Lib.SlBytesConst
namespace Go.Proofs.Ytjbejaieihchmaa
open Go.RowKit

theorem not32_nat (s : Nat) (hs : s < 4294967296) : 4294967295 ^^^ s = 4294967295 - s := by
  have h : (BitVec.allOnes 32 ^^^ BitVec.ofNat 32 s).toNat = (~~~ (BitVec.ofNat 32 s)).toNat := by rw [BitVec.allOnes_xor]
  rw [BitVec.toNat_xor, BitVec.toNat_not, BitVec.toNat_allOnes, BitVec.toNat_ofNat, Nat.mod_eq_of_lt (by simpa using hs)] at h
  exact h
theorem not32 (s : Nat) (hs : s < 4294967296) : bits BinOp.xor IntKind.u32 IntKind.u32.max (s : Int) = ((4294967295 - s : Nat) : Int) := by
  have h := u32_xor_nat 4294967295 s (by omega) hs
  rw [not32_nat s hs] at h
  exact h

set_option maxHeartbeats 1000000 in
theorem more_calls (s : Nat) (A : Option Addr) (c : Nat) (bs : List UInt8) (w : World) (hb : RdB w A bs) (hl : bs.length ≤ 1000000) (hs : s < 4294967296) :
    Calls Try.prog 24 #[.int .u32 s, .slice A bs.length c] w fun e w' => e = .returned (.int .u32 (crcMore s bs)) ∧ w = w' := by
  have Hb := Lib.hid hb
  clear hb
  have hns : IntKind.u32.signed = false := rfl
  go_enter Try.func24, Try.ntmps24
  go_wp2
  go_loop [5, 13] (fun r i => ∃ k q : Nat, k ≤ bs.length ∧ i = .int .i64 k ∧ q = crcReg (4294967295 - s) (bs.take k) ∧ r = .int .u32 q) (fun _ i => bs.length - (intOf i).toNat)
  case atStart => exact ⟨0, 4294967295 - s, by omega, rfl, rfl, by rw [not32 s hs]⟩
  case round =>
    obtain ⟨k, q, hk, rfl, hq, rfl⟩ := hrel
    have hq32 : q < 4294967296 := by rw [hq]; exact crcReg_lt _ (by omega)
    have HQ := Lib.hid hq
    clear hq
    by_cases hlt : k < bs.length
    · obtain ⟨ad, rfl, hca⟩ := Hb.out.at_ hlt
      have hbl := (bs[k]).toNat_lt
      have hx := u32_xor_nat q (bs[k]).toNat hq32 (by omega)
      have hxl : q ^^^ (bs[k]).toNat < 4294967296 := Nat.xor_lt_two_pow (n := 32) hq32 (by omega)
      generalize hy : q ^^^ (bs[k]).toNat = y at *
      have HY := Lib.hid hy
      clear hy
      go_wp2
      go_loop [5, 8, 21] (fun r _ i => ∃ j z : Nat, j ≤ 8 ∧ i = .int .i64 j ∧ z = crcBits j y ∧ r = .int .u32 z) (fun _ _ i => 8 - (intOf i).toNat)
      case atStart => exact ⟨0, y, by omega, rfl, rfl, rfl⟩
      case round =>
        obtain ⟨j, z, hj, rfl, hz, rfl⟩ := hrel
        have hz32 : z < 4294967296 := by rw [hz]; exact crcBits_lt hxl
        have HZ := Lib.hid hz
        clear hz
        by_cases hj8 : j < 8
        · have hand := u32_and_nat z 1 hz32 (by omega)
          rw [nat_mask1] at hand
          have HX : Hid (bits BinOp.xor IntKind.u32 ((z : Int) / 2) 2197175160 = ((z / 2 ^^^ 2197175160 : Nat) : Int)) := by
            have h := u32_xor_nat (z / 2) 2197175160 (by omega) (by omega)
            exact h
          have HN : Hid (crcBits (j + 1) y = crcBit z) := by rw [HZ.out]; exact crcBits_snoc j y
          by_cases hodd : z % 2 = 1
          · have h1 : bits BinOp.and IntKind.u32 (z : Int) 1 = 1 := by rw [hodd] at hand; exact hand
            have HO := Lib.hid hodd
            clear hand hodd
            go_wp2
            go_round
            case rel => exact ⟨j + 1, crcBit z, by omega, by go_num, HN.out.symm, by rw [HX.out, crcBit, if_pos HO.out]⟩
            case measure => simp [intOf]; omega
          · have h1 : bits BinOp.and IntKind.u32 (z : Int) 1 = 0 := by rw [show z % 2 = 0 from by omega] at hand; exact hand
            have HO := Lib.hid hodd
            clear hand hodd
            go_wp2
            go_round
            case rel => exact ⟨j + 1, crcBit z, by omega, by go_num, HN.out.symm, by rw [crcBit, if_neg HO.out]; go_num⟩
            case measure => simp [intOf]; omega
        · obtain rfl : j = 8 := by omega
          have HN : Hid (crcReg (4294967295 - s) (bs.take (k + 1)) = z) := by
            show _ = _
            rw [List.take_succ_eq_append_getElem hlt, crcReg_snoc, ← HQ.out, HY.out, ← HZ.out]
          go_wp2
          go_round
          case rel => exact ⟨k + 1, z, by omega, by go_num, HN.out.symm, rfl⟩
          case measure => simp [intOf]; omega
    · have HN : Hid (bits BinOp.xor IntKind.u32 IntKind.u32.max (q : Int) = (crcMore s bs : Int)) := by
        show _ = _
        rw [not32 q hq32, HQ.out, List.take_of_length_le (by omega)]; rfl
      go_wp2
      go_ret
      exact ⟨ret_int HN.out, rfl⟩

theorem sum_calls (A : Option Addr) (c : Nat) (bs : List UInt8) (w : World) (hb : RdB w A bs) (hl : bs.length ≤ 1000000) :
    Calls Try.prog 22 #[.slice A bs.length c] w fun e w' => e = .returned (.int .u32 (crcSum bs)) ∧ w = w' := by
  have Hb := Lib.hid hb
  clear hb
  go_enter Try.func22, Try.ntmps22
  go_wp2_with fail
  refine (more_calls 0 A c bs _ Hb.out hl (by omega)).mono ?_
  rintro e w' ⟨rfl, rfl⟩
  go_wp2_with fail
  go_ret
  exact ⟨rfl, rfl⟩

/-- one bit of the reference: register and byte halve; the register turns if their low bits part -/
def refBits : Nat → Nat → Nat → Nat × Nat
  | 0, r, c => (r, c)
  | k + 1, r, c =>
    let p := refBits k r c
    (if (p.1 % 2 == 1) != (p.2 % 2 == 1) then (p.1 / 2) ^^^ 2197175160 else p.1 / 2, p.2 / 2)
theorem xor_half (a b : Nat) : (a ^^^ b) / 2 = a / 2 ^^^ b / 2 := by
  have := Nat.shiftRight_xor_distrib (a := a) (b := b) (i := 1)
  simpa [Nat.shiftRight_eq_div_pow] using this
theorem xor_odd (a b : Nat) : (a ^^^ b) % 2 = 1 ↔ ¬ (a % 2 = 1 ↔ b % 2 = 1) := by
  rw [Nat.xor_mod_two_eq_one]
theorem refBits_eq (k r c : Nat) : crcBits k (r ^^^ c) = (refBits k r c).1 ^^^ (refBits k r c).2 := by
  induction k with
  | zero => rfl
  | succ k ih =>
    rw [crcBits_snoc, ih, refBits, crcBit]
    generalize refBits k r c = p
    by_cases h : (p.1 ^^^ p.2) % 2 = 1
    · have h' := (xor_odd _ _).1 h
      have hb : ((p.1 % 2 == 1) != (p.2 % 2 == 1)) = true := by
        simp only [bne_iff_ne, ne_eq]; intro he; apply h'; rw [Bool.eq_iff_iff, beq_iff_eq, beq_iff_eq] at he; exact he
      rw [if_pos h, if_pos hb, xor_half, Nat.xor_assoc, Nat.xor_comm (p.2 / 2), ← Nat.xor_assoc]
    · have h' : (p.1 % 2 = 1 ↔ p.2 % 2 = 1) := Classical.not_not.1 (fun hn => h ((xor_odd _ _).2 hn))
      have hb : ((p.1 % 2 == 1) != (p.2 % 2 == 1)) = false := by
        simp only [bne_eq_false_iff_eq]; rw [Bool.eq_iff_iff, beq_iff_eq, beq_iff_eq]; exact h'
      rw [if_neg h, if_neg (by rw [hb]; decide), xor_half]
theorem refBits_snd (k r c : Nat) : (refBits k r c).2 = c / 2 ^ k := by
  induction k with
  | zero => simp [refBits]
  | succ k ih => rw [refBits, ih, Nat.pow_succ, Nat.div_div_eq_div_mul]
theorem refBits_lt (k r c : Nat) (h : r < 4294967296) : (refBits k r c).1 < 4294967296 := by
  induction k with
  | zero => exact h
  | succ k ih =>
    rw [refBits]; dsimp only; split
    · exact Nat.xor_lt_two_pow (n := 32) (by omega) (by omega)
    · omega
theorem refBits_8 (r : Nat) (b : UInt8) : (refBits 8 r b.toNat).1 = crcBits 8 (r ^^^ b.toNat) := by
  have := b.toNat_lt
  rw [refBits_eq, refBits_snd, Nat.div_eq_of_lt this, Nat.xor_zero]

set_option maxHeartbeats 1000000 in
theorem rsum_calls (A : Option Addr) (c : Nat) (bs : List UInt8) (w : World) (hb : RdB w A bs) (hl : bs.length ≤ 1000000) :
    Calls Try.prog 23 #[.slice A bs.length c] w fun e w' => e = .returned (.int .u32 (crcSum bs)) ∧ w = w' := by
  have Hb := Lib.hid hb
  clear hb
  go_enter Try.func23, Try.ntmps23
  go_wp2
  go_loop [3, 4] (fun r i => ∃ k q : Nat, k ≤ bs.length ∧ i = .int .i64 k ∧ q = crcReg 4294967295 (bs.take k) ∧ r = .int .u32 q) (fun _ i => bs.length - (intOf i).toNat)
  case atStart => exact ⟨0, 4294967295, by omega, rfl, rfl, rfl⟩
  case round =>
    obtain ⟨k, q, hk, rfl, hq, rfl⟩ := hrel
    have hq32 : q < 4294967296 := by rw [hq]; exact crcReg_lt _ (by omega)
    have HQ := Lib.hid hq
    clear hq
    by_cases hlt : k < bs.length
    · obtain ⟨ad, rfl, hca⟩ := Hb.out.at_ hlt
      have hbl : (bs[k]).toNat < 256 := (bs[k]).toNat_lt
      go_wp2
      go_loop [3, 5, 6] (fun r x i => ∃ j y z : Nat, j ≤ 8 ∧ i = .int .i64 j ∧ y = (refBits j q (bs[k]).toNat).1 ∧ z = (refBits j q (bs[k]).toNat).2 ∧ z < 256 ∧ r = .int .u32 y ∧ x = .int .u8 z) (fun _ _ i => 8 - (intOf i).toNat)
      case atStart => exact ⟨0, q, (bs[k]).toNat, by omega, rfl, rfl, rfl, hbl, rfl, rfl⟩
      case round =>
        obtain ⟨j, y, z, hj, rfl, hy, hz, hz8, rfl, rfl⟩ := hrel
        have hy32 : y < 4294967296 := by rw [hy]; exact refBits_lt _ _ _ hq32
        have HY := Lib.hid hy
        have HZ := Lib.hid hz
        clear hy hz
        by_cases hj8 : j < 8
        · have HX : Hid (bits BinOp.xor IntKind.u32 ((y : Int) / 2) 2197175160 = ((y / 2 ^^^ 2197175160 : Nat) : Int)) := by
            have h := u32_xor_nat (y / 2) 2197175160 (by omega) (by omega)
            exact h
          have HN : Hid (refBits (j + 1) q (bs[k]).toNat = (if (y % 2 == 1) != (z % 2 == 1) then (y / 2) ^^^ 2197175160 else y / 2, z / 2)) := by rw [HY.out, HZ.out]; rfl
          have hyb : y % 2 = 1 ∨ y % 2 = 0 := by omega
          have hzb : z % 2 = 1 ∨ z % 2 = 0 := by omega
          rcases hyb with ha | ha <;> rcases hzb with hb | hb
          · have h1 : ((y : Int) % 2 == 1) = true := by simp; omega
            have h2 : ((z : Int) % 2 == 1) = true := by simp; omega
            have HN2 : Hid (refBits (j + 1) q (bs[k]).toNat = (y / 2, z / 2)) := by show _ = _; rw [HN.out, ha, hb]; rfl
            clear ha hb
            go_wp2
            go_round
            case rel => exact ⟨j + 1, y / 2, z / 2, by omega, by go_num, by rw [HN2.out], by rw [HN2.out], by omega, by go_num, by go_num⟩
            case measure => simp [intOf]; omega
          · have h1 : ((y : Int) % 2 == 1) = true := by simp; omega
            have h2 : ((z : Int) % 2 == 1) = false := by simp; omega
            have HN2 : Hid (refBits (j + 1) q (bs[k]).toNat = (y / 2 ^^^ 2197175160, z / 2)) := by show _ = _; rw [HN.out, ha, hb]; rfl
            clear ha hb
            go_wp2
            go_round
            case rel => exact ⟨j + 1, y / 2 ^^^ 2197175160, z / 2, by omega, by go_num, by rw [HN2.out], by rw [HN2.out], by omega, by rw [HX.out], by go_num⟩
            case measure => simp [intOf]; omega
          · have h1 : ((y : Int) % 2 == 1) = false := by simp; omega
            have h2 : ((z : Int) % 2 == 1) = true := by simp; omega
            have HN2 : Hid (refBits (j + 1) q (bs[k]).toNat = (y / 2 ^^^ 2197175160, z / 2)) := by show _ = _; rw [HN.out, ha, hb]; rfl
            clear ha hb
            go_wp2
            go_round
            case rel => exact ⟨j + 1, y / 2 ^^^ 2197175160, z / 2, by omega, by go_num, by rw [HN2.out], by rw [HN2.out], by omega, by rw [HX.out], by go_num⟩
            case measure => simp [intOf]; omega
          · have h1 : ((y : Int) % 2 == 1) = false := by simp; omega
            have h2 : ((z : Int) % 2 == 1) = false := by simp; omega
            have HN2 : Hid (refBits (j + 1) q (bs[k]).toNat = (y / 2, z / 2)) := by show _ = _; rw [HN.out, ha, hb]; rfl
            clear ha hb
            go_wp2
            go_round
            case rel => exact ⟨j + 1, y / 2, z / 2, by omega, by go_num, by rw [HN2.out], by rw [HN2.out], by omega, by go_num, by go_num⟩
            case measure => simp [intOf]; omega
        · obtain rfl : j = 8 := by omega
          have HN : Hid (crcReg 4294967295 (bs.take (k + 1)) = y) := by
            show _ = _
            rw [List.take_succ_eq_append_getElem hlt, crcReg_snoc, ← HQ.out, HY.out, refBits_8]
          go_wp2
          go_round
          case rel => exact ⟨k + 1, y, by omega, by go_num, HN.out.symm, rfl⟩
          case measure => simp [intOf]; omega
    · have HN : Hid (((4294967295 - q : Nat) : Int) = (crcSum bs : Int)) := by
        show _ = _
        rw [HQ.out, List.take_of_length_le (by omega)]; rfl
      go_wp2
      go_ret
      exact ⟨ret_int (by rw [← HN.out]; omega), rfl⟩

set_option maxHeartbeats 400000 in
theorem seal_calls (A : Option Addr) (c : Nat) (bs : List UInt8) (w : World) (hb : RdB w A bs) (hl : bs.length ≤ 1000000) :
    Calls Try.prog 29 #[.slice A bs.length c] w (RetB w (bs ++ leB 4 (crcSum bs))) := by
  have Hb := Lib.hid hb
  clear hb
  have hs := crcSum_lt bs
  go_enter Try.func29, Try.ntmps29
  go_wp2_with fail
  refine (sum_calls A c bs _ Hb.out hl).mono ?_
  rintro e w' ⟨rfl, rfl⟩
  generalize crcSum bs = q at *
  go_wp2_with fail
  refine (put4 A c bs q _ Hb.out hl (by omega)).mono ?_
  rintro e w1 ⟨A1, c1, rfl, h1, e1⟩
  generalize bs ++ leB 4 q = L at *
  have H1 := Lib.hid h1; have E1 := Lib.hid e1; clear h1 e1
  go_wp2_with fail
  go_ret
  exact ⟨A1, c1, rfl, H1.out, E1.out⟩

theorem sealsum_example : crcSum [49, 50, 51, 52, 53, 54, 55, 56, 57] = 3808858755 := by decide +kernel

set_option maxHeartbeats 400000 in
theorem awake02 (w : World) : Calls Try.prog 21 #[] w (RetV w (.bool true)) := by
  have kc := fun (w : World) (C : Array Value) (n c : Nat) => Lib.run_convert_bytes_const (P := Try.prog) w 22 5 C n c Try.underlying22 Try.underlying5
  go_enter Try.func21, Try.ntmps21
  go_wp2_with fail
  refine (sum_calls (some ⟨w.heap.size, 0, none⟩) 9 [49, 50, 51, 52, 53, 54, 55, 56, 57] _ (Rd.of_block (heap_new w _)) (by decide)).mono ?_
  rintro e w' ⟨rfl, rfl⟩
  rw [sealsum_example]
  have E1 := Lib.hid ((Ext.refl w).alloc (.cells #[.int .u8 49, .int .u8 50, .int .u8 51, .int .u8 52, .int .u8 53, .int .u8 54, .int .u8 55, .int .u8 56, .int .u8 57] 5 (9, 10)))
  clear kc
  go_wp2_with fail
  refine (seal_calls none 0 [] _ RdB.nil (by decide)).mono ?_
  rintro e w2 ⟨A2, c2, rfl, h2, e2⟩
  have E2 := Lib.hid (E1.out.trans e2)
  rw [show (([] : List UInt8) ++ leB 4 (crcSum [])).length = 4 from rfl]
  clear h2 e2
  go_wp2_with fail
  go_ret
  exact ⟨rfl, E2.out⟩

set_option maxHeartbeats 400000 in
theorem crcSums_walk (A B : Option Addr) (c d : Nat) (xs ys : List UInt8) (w : World) (ha : RdB w A xs) (hb : RdB w B ys) (hx : xs.length ≤ 9223372036854775807) (hy : ys.length ≤ 9223372036854775807) :
    Calls Try.prog 4 #[.slice A xs.length c, .slice B ys.length d] w (RetV w (.bool true)) := by
  have Ha := Lib.hid ha
  have Hb := Lib.hid hb
  clear ha hb
  by_cases h1 : 1500 < xs.length
  · go_enter Try.func4, Try.ntmps4
    go_wp2_with fail
    refine (awake02 _).mono ?_
    rintro e w1 ⟨rfl, he⟩
    have He := Lib.hid he
    clear he
    go_wp2_with fail
    go_ret
    exact ⟨rfl, He.out⟩
  by_cases h2 : 1500 < ys.length
  · go_enter Try.func4, Try.ntmps4
    go_wp2_with fail
    refine (awake02 _).mono ?_
    rintro e w1 ⟨rfl, he⟩
    have He := Lib.hid he
    clear he
    go_wp2_with fail
    go_ret
    exact ⟨rfl, He.out⟩
  have hm := crcMore_sum xs ys
  have HM := Lib.hid hm
  have hlt := crcSum_lt xs
  clear hm
  go_enter Try.func4, Try.ntmps4
  go_wp2_with fail
  refine (sum_calls A c xs _ Ha.out (by omega)).mono ?_
  rintro e w' ⟨rfl, rfl⟩
  go_wp2_with fail
  refine (rsum_calls A c xs _ Ha.out (by omega)).mono ?_
  rintro e w' ⟨rfl, rfl⟩
  go_wp2_with fail
  refine (sum_calls A c xs _ Ha.out (by omega)).mono ?_
  rintro e w' ⟨rfl, rfl⟩
  go_wp2_with fail
  refine (more_calls (crcSum xs) B d ys _ Hb.out (by omega) hlt).mono ?_
  rintro e w' ⟨rfl, rfl⟩
  rw [HM.out]
  generalize hq : crcSum (xs ++ ys) = q at *
  have HQ := Lib.hid hq
  clear hq
  go_wp2_with (first | (at_builtin; refine cpyE w rfl (.tmp 24) (.tmp 25) rfl rfl A c xs rfl ?_ Ha.out ?c2; intro A1 c1 w1 h1 e1; have H1 := Lib.hid h1; have E1 := Lib.hid e1; clear h1 e1) | (at_builtin; refine appB _ rfl (.tmp 26) (.tmp 27) rfl w.heap.size A1 c1 xs rfl B d ys rfl ?_ H1.out (Hb.out.ext E1.out) ?c3 E1.out.size; intro A2 c2 w2 h2 g2 k2; have H2 := Lib.hid h2; have E2 : Hid (Ext w w2) := E1.out.grown g2 (fun g hg => (H1.out.base_ g hg).1); clear h2 g2 k2))
  case c2 => omega
  case c3 => omega
  have hl2 : (xs ++ ys).length = xs.length + ys.length := by simp
  rw [← hl2]
  refine (rsum_calls A2 c2 (xs ++ ys) _ H2.out.rd (by omega)).mono ?_
  rintro e w' ⟨rfl, rfl⟩
  rw [HQ.out]
  clear hl2
  go_wp2_with fail
  refine (awake02 _).mono ?_
  rintro e w3 ⟨rfl, e3⟩
  have E3 := Lib.hid (E2.out.trans e3)
  clear e3
  go_wp2_with fail
  go_ret
  exact ⟨rfl, E3.out⟩
end Go.Proofs.Ytjbejaieihchmaa
