/- ref04.padded, ref04.Tag; the laws HmacTags, HmacKeys. -/
import Derived.Test.YtlgngnkaiidbeaaDoorHmac2
set_option maxRecDepth 100000
set_option linter.unusedVariables false
set_option linter.unusedSimpArgs false
namespace Go.Proofs.YtlgngnkaiidbeaaDoor
open Go.RowKit

theorem key64_get (k : List UInt8) (i : Nat) (h : i < 64) : (key64 k)[i]?.getD 0 = if i < (keyP k).length then (keyP k)[i]?.getD 0 else 0 := by
  unfold key64
  by_cases hi : i < (keyP k).length
  · rw [if_pos hi, List.getElem?_append_left hi]
  · rw [if_neg hi, List.getElem?_append_right (by omega)]
    rw [List.getElem?_replicate]
    split <;> rfl

set_option maxHeartbeats 2000000 in
theorem rpadded_small (x : UInt8) (X : Int) (hX : X = (x.toNat : Int)) (A : Option Addr) (c : Nat) (k : List UInt8) (w : World) (hk : RdB w A k) (hkl : k.length ≤ 64) :
    Calls Tryd.prog 24 #[.slice A k.length c, .int .u8 X] w (RetB w (xorB x (key64 k))) := by
  have Hk := Lib.hid hk
  have HK : Hid (keyP k = k) := if_neg (by omega)
  have HKL := Lib.hid (key64_length k)
  clear hk
  subst hX
  go_enter Tryd.func24, Tryd.ntmps24
  go_wp2
  go_loopw [5, 6, 7] (fun out i _ wr => ∃ (j : Nat) (L : List UInt8) (B : Option Addr) (d : Nat), j ≤ 64 ∧ i = .int .i64 j ∧ L = (xorB x (key64 k)).take j ∧ out = .slice B L.length d ∧ OwnB wr w.heap.size B d L ∧ Ext w wr) (fun _ i _ _ => 64 - (intOf i).toNat)
  case atStart => exact ⟨0, [], none, 0, by omega, rfl, rfl, rfl, OwnB.nil _ _, Ext.refl w⟩
  case round =>
    rename_i wr
    obtain ⟨j, L, B, d, hj, rfl, hLL, rfl, hown, hext⟩ := hrel
    have HO := Lib.hid hown
    have HE := Lib.hid hext
    have hll : L.length ≤ 64 := by rw [hLL, List.length_take]; omega
    by_cases hlt : j < 64
    · have HT : Hid ((xorB x (key64 k)).take (j + 1) = L ++ [((key64 k)[j]?.getD 0) ^^^ x]) := by show _ = _; rw [xorB_take_succ x _ j (by rw [HKL.out]; exact hlt), hLL]
      rw [key64_get k j hlt, HK.out] at HT
      by_cases hin : j < k.length
      · rw [if_pos hin, List.getElem?_eq_getElem hin, Option.getD_some] at HT
        obtain ⟨ad, rfl, hc⟩ := (Hk.out.ext hext).at_ hin
        clear hown hext hLL
        generalize k[j] = y at *
        have HX := Lib.hid (u8_xor y x)
        go_wp2_with (at_builtin; refine appB _ rfl (.tmp 25) (.tmp 29) rfl w.heap.size B d L rfl _ _ [y ^^^ x] rfl ?_ (OwnB.ext HO.out ((Ext.refl _).alloc _)) (RdB.one _ _ _ _ HX.out) ?c3 ?c4; intro A' c' w' h1 h2 h3; have K1 := Lib.hid h1; have K2 := Lib.hid ((HE.out.alloc _).grown h2 (fun g hg => (HO.out.base_ g hg).1)); clear h1 h2 h3)
        case c3 => simp; omega
        case c4 => simp; have := HE.out.size; omega
        go_roundw
        case rel => exact ⟨j + 1, L ++ [y ^^^ x], A', c', by omega, by go_num, HT.out.symm, by simp, K1.out, K2.out⟩
        case measure => simp [intOf]; omega
      · rw [if_neg hin] at HT
        clear hown hext hLL
        have HX : Hid (bits BinOp.xor IntKind.u8 0 (x.toNat : Int) = (((0 : UInt8) ^^^ x).toNat : Int)) := u8_xor 0 x
        go_wp2_with (at_builtin; refine appB _ rfl (.tmp 25) (.tmp 29) rfl w.heap.size B d L rfl _ _ [(0 : UInt8) ^^^ x] rfl ?_ (OwnB.ext HO.out ((Ext.refl _).alloc _)) (RdB.one _ _ _ _ HX.out) ?c5 ?c6; intro A' c' w' h1 h2 h3; have K1 := Lib.hid h1; have K2 := Lib.hid ((HE.out.alloc _).grown h2 (fun g hg => (HO.out.base_ g hg).1)); clear h1 h2 h3)
        case c5 => simp; omega
        case c6 => simp; have := HE.out.size; omega
        go_roundw
        case rel => exact ⟨j + 1, L ++ [(0 : UInt8) ^^^ x], A', c', by omega, by go_num, HT.out.symm, by simp, K1.out, K2.out⟩
        case measure => simp [intOf]; omega
    · have HF : Hid (L = xorB x (key64 k)) := by show _ = _; rw [hLL, List.take_of_length_le (by rw [xorB_length, HKL.out]; omega)]
      clear hown hext hLL
      go_wp2
      go_ret
      exact ⟨B, d, by rw [← HF.out]; rfl, by rw [← HF.out]; exact HO.out, HE.out⟩
set_option maxHeartbeats 2000000 in
theorem rpadded_big (x : UInt8) (X : Int) (hX : X = (x.toNat : Int)) (A : Option Addr) (c : Nat) (k : List UInt8) (w : World) (hk : RdB w A k) (hkl : 64 < k.length) (hkm : k.length ≤ 100000) :
    Calls Tryd.prog 24 #[.slice A k.length c, .int .u8 X] w (RetB w (xorB x (key64 k))) := by
  have Hk := Lib.hid hk
  have HK : Hid (keyP k = Sha.sum k) := if_pos hkl
  have HKL := Lib.hid (key64_length k)
  have hSl : (Sha.sum k).length ≤ 64 := by rw [Sha.sum_length]; omega
  clear hk
  subst hX
  go_enter Tryd.func24, Tryd.ntmps24
  go_wp2_with (go_at_call 25; refine (rsumS_calls A c k _ Hk.out (by omega)).mono ?_; rintro e w1 ⟨A1, c1, rfl, h1, e1⟩; have E1 := Lib.hid e1; have Hk1 := Lib.hid h1.rd; clear h1 e1)
  clear Hk
  have Hk := Hk1
  clear Hk1
  generalize Sha.sum k = K at *
  go_loopw [5, 6, 7] (fun out i _ wr => ∃ (j : Nat) (L : List UInt8) (B : Option Addr) (d : Nat), j ≤ 64 ∧ i = .int .i64 j ∧ L = (xorB x (key64 k)).take j ∧ out = .slice B L.length d ∧ OwnB wr w1.heap.size B d L ∧ Ext w1 wr) (fun _ i _ _ => 64 - (intOf i).toNat)
  case atStart => exact ⟨0, [], none, 0, by omega, rfl, rfl, rfl, OwnB.nil _ _, Ext.refl w1⟩
  case round =>
    rename_i wr
    obtain ⟨j, L, B, d, hj, rfl, hLL, rfl, hown, hext⟩ := hrel
    have HO := Lib.hid hown
    have HE := Lib.hid hext
    have hll : L.length ≤ 64 := by rw [hLL, List.length_take]; omega
    by_cases hlt : j < 64
    · have HT : Hid ((xorB x (key64 k)).take (j + 1) = L ++ [((key64 k)[j]?.getD 0) ^^^ x]) := by show _ = _; rw [xorB_take_succ x _ j (by rw [HKL.out]; exact hlt), hLL]
      rw [key64_get k j hlt, HK.out] at HT
      by_cases hin : j < K.length
      · rw [if_pos hin, List.getElem?_eq_getElem hin, Option.getD_some] at HT
        obtain ⟨ad, rfl, hc⟩ := (Hk.out.ext hext).at_ hin
        clear hown hext hLL
        generalize K[j] = y at *
        have HX := Lib.hid (u8_xor y x)
        go_wp2_with (at_builtin; refine appB _ rfl (.tmp 25) (.tmp 29) rfl w1.heap.size B d L rfl _ _ [y ^^^ x] rfl ?_ (OwnB.ext HO.out ((Ext.refl _).alloc _)) (RdB.one _ _ _ _ HX.out) ?c3 ?c4; intro A' c' w' h1 h2 h3; have K1 := Lib.hid h1; have K2 := Lib.hid ((HE.out.alloc _).grown h2 (fun g hg => (HO.out.base_ g hg).1)); clear h1 h2 h3)
        case c3 => simp; omega
        case c4 => simp; have := HE.out.size; omega
        go_roundw
        case rel => exact ⟨j + 1, L ++ [y ^^^ x], A', c', by omega, by go_num, HT.out.symm, by simp, K1.out, K2.out⟩
        case measure => simp [intOf]; omega
      · rw [if_neg hin] at HT
        clear hown hext hLL
        have HX : Hid (bits BinOp.xor IntKind.u8 0 (x.toNat : Int) = (((0 : UInt8) ^^^ x).toNat : Int)) := u8_xor 0 x
        go_wp2_with (at_builtin; refine appB _ rfl (.tmp 25) (.tmp 29) rfl w1.heap.size B d L rfl _ _ [(0 : UInt8) ^^^ x] rfl ?_ (OwnB.ext HO.out ((Ext.refl _).alloc _)) (RdB.one _ _ _ _ HX.out) ?c5 ?c6; intro A' c' w' h1 h2 h3; have K1 := Lib.hid h1; have K2 := Lib.hid ((HE.out.alloc _).grown h2 (fun g hg => (HO.out.base_ g hg).1)); clear h1 h2 h3)
        case c5 => simp; omega
        case c6 => simp; have := HE.out.size; omega
        go_roundw
        case rel => exact ⟨j + 1, L ++ [(0 : UInt8) ^^^ x], A', c', by omega, by go_num, HT.out.symm, by simp, K1.out, K2.out⟩
        case measure => simp [intOf]; omega
    · have HF : Hid (L = xorB x (key64 k)) := by show _ = _; rw [hLL, List.take_of_length_le (by rw [xorB_length, HKL.out]; omega)]
      clear hown hext hLL
      go_wp2
      go_ret
      exact ⟨B, d, by rw [← HF.out]; rfl, by rw [← HF.out]; exact HO.out.lower E1.out.size, E1.out.trans HE.out⟩

theorem rpadded_calls (x : UInt8) (X : Int) (hX : X = (x.toNat : Int)) (A : Option Addr) (c : Nat) (k : List UInt8) (w : World) (hk : RdB w A k) (hkm : k.length ≤ 100000) :
    Calls Tryd.prog 24 #[.slice A k.length c, .int .u8 X] w (RetB w (xorB x (key64 k))) := by
  by_cases h : 64 < k.length
  · exact rpadded_big x X hX A c k w hk h hkm
  · exact rpadded_small x X hX A c k w hk (by omega)

set_option maxHeartbeats 1000000 in
theorem rtag_calls (A B : Option Addr) (c d : Nat) (key b : List UInt8) (w : World) (hk : RdB w A key) (hb : RdB w B b) (hkl : key.length ≤ 100000) (hbl : b.length ≤ 100000) :
    Calls Tryd.prog 10 #[.slice A key.length c, .slice B b.length d] w (RetB w (tagB key b)) := by
  have Hk := Lib.hid hk
  have Hb := Lib.hid hb
  have HT : Hid (tagB key b = Sha.sum (xorB 0x5c (key64 key) ++ Sha.sum (xorB 0x36 (key64 key) ++ b))) := rfl
  have HK1 : Hid ((xorB 0x36 (key64 key)).length = 64) := by show _ = _; rw [xorB_length, key64_length]
  have HK2 : Hid ((xorB 0x5c (key64 key)).length = 64) := by show _ = _; rw [xorB_length, key64_length]
  clear hk hb
  go_enter Tryd.func10, Tryd.ntmps10
  go_wp2_with fail
  refine (rpadded_calls 0x36 54 rfl A c key _ Hk.out hkl).mono ?_
  rintro e w1 ⟨A1, c1, rfl, o1, e1⟩
  have O1 := Lib.hid o1
  have E1 := Lib.hid e1
  clear o1 e1
  have h1 : (xorB 0x36 (key64 key)).length ≤ 64 := by have := HK1.out; omega
  generalize xorB 0x36 (key64 key) = P1 at *
  go_wp2_with (at_builtin; refine appB _ rfl (.tmp 8) (.tmp 9) rfl w.heap.size A1 c1 P1 rfl B d b rfl ?_ O1.out (Hb.out.ext E1.out) ?c1 ?c2; intro A2 c2 w2 h2 g2 k2; have O2 := Lib.hid h2; have E2 := Lib.hid (E1.out.grown g2 (fun g hg => (O1.out.base_ g hg).1)); clear h2 g2 k2)
  case c1 => omega
  case c2 => exact E1.out.size
  refine (rpadded_calls 0x5c 92 rfl A c key _ (Hk.out.ext E2.out) hkl).mono ?_
  rintro e w3 ⟨A3, c3, rfl, o3, e3⟩
  have O3 := Lib.hid o3
  have E3 := Lib.hid e3
  have O2' := Lib.hid (O2.out.ext e3)
  clear o3 e3 O1 O2
  have h3 : (xorB 0x5c (key64 key)).length ≤ 64 := by have := HK2.out; omega
  have HL1 : Hid ((P1 ++ b).length ≤ 1000000) := by show _ ≤ _; rw [List.length_append]; omega
  have hPb : P1.length + b.length = (P1 ++ b).length := by rw [List.length_append]
  generalize xorB 0x5c (key64 key) = P2 at *
  rw [hPb]
  clear hPb
  generalize P1 ++ b = L1 at *
  go_wp2_with fail
  refine (rsumS_calls A2 c2 L1 _ O2'.out.rd HL1.out).mono ?_
  rintro e w4 ⟨A4, c4, rfl, o4, e4⟩
  have O4 := Lib.hid o4
  have O3' := Lib.hid (O3.out.ext e4)
  have E4 := Lib.hid e4
  have HS1 := Lib.hid (Sha.sum_length L1)
  have hs1 : (Sha.sum L1).length ≤ 32 := by rw [Sha.sum_length]; omega
  clear o4 e4 O3 O2'
  generalize Sha.sum L1 = S1 at *
  go_wp2_with (at_builtin; refine appB _ rfl (.tmp 12) (.tmp 14) rfl w2.heap.size A3 c3 P2 rfl A4 c4 S1 rfl ?_ O3'.out O4.out.rd ?c3 ?c4; intro A5 c5 w5 h5 g5 k5; have O5 := Lib.hid h5; have E5 := Lib.hid (((E2.out.trans E3.out).trans E4.out).grown g5 (fun g hg => by have := (O3'.out.base_ g hg).1; have := E2.out.size; omega)); clear h5 g5 k5)
  case c3 => omega
  case c4 => exact Nat.le_trans E3.out.size E4.out.size
  have HL2 : Hid ((P2 ++ S1).length ≤ 1000000) := by show _ ≤ _; rw [List.length_append]; omega
  have hPs : P2.length + S1.length = (P2 ++ S1).length := by rw [List.length_append]
  rw [hPs]
  clear hPs
  generalize P2 ++ S1 = L2 at *
  refine (rsumS_calls A5 c5 L2 _ O5.out.rd HL2.out).mono ?_
  rintro e w6 ⟨A6, c6, rfl, o6, e6⟩
  have O6 := Lib.hid (o6.lower E5.out.size)
  have E6 := Lib.hid (E5.out.trans e6)
  clear o6 e6
  go_wp2_with fail
  go_ret
  rw [HT.out]
  exact ⟨A6, c6, rfl, O6.out, E6.out⟩

end Go.Proofs.YtlgngnkaiidbeaaDoor
