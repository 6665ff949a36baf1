/- The walk of CrcSpoilt. -/
import Derived.Test.YtjbejaieihchmaaCrc2
import Derived.Test.YtjbejaieihchmaaArrEq
import Derived.BigRegion
namespace Go.Proofs.Ytjbejaieihchmaa
open Go.RowKit

/-- the byte at a place turned by y -/
def xorAt (s : List UInt8) (a : Nat) (y : UInt8) : List UInt8 := s.set a (s.getD a 0 ^^^ y)
/-- the first i of the bytes x, turned into s from a on -/
def spoil (s x : List UInt8) (a : Nat) : Nat → List UInt8
  | 0 => s
  | i + 1 => xorAt (spoil s x a i) (a + i) (x.getD i 0)
theorem xorAt_length (s : List UInt8) (a : Nat) (y : UInt8) : (xorAt s a y).length = s.length := by simp [xorAt]
theorem spoil_length (s x : List UInt8) (a i : Nat) : (spoil s x a i).length = s.length := by
  induction i with
  | zero => rfl
  | succ i ih => rw [spoil, xorAt_length, ih]
theorem spoil_get (s x : List UInt8) (a i j : Nat) (hj : j < s.length) (ha : a + i ≤ s.length) :
    (spoil s x a i).getD j 0 = if a ≤ j ∧ j < a + i then s.getD j 0 ^^^ x.getD (j - a) 0 else s.getD j 0 := by
  induction i with
  | zero => rw [if_neg (by omega)]; rfl
  | succ i ih =>
    have ih := ih (by omega)
    have hl := spoil_length s x a i
    rw [spoil, xorAt]
    by_cases h : a + i = j
    · subst h
      rw [if_pos (by omega), Nat.add_sub_cancel_left]
      rw [if_neg (by omega)] at ih
      rw [← ih]
      simp [List.getD_eq_getElem?_getD, hl, hj]
    · have e : ((spoil s x a i).set (a + i) ((spoil s x a i).getD (a + i) 0 ^^^ x.getD i 0)).getD j 0 = (spoil s x a i).getD j 0 := by
        simp [List.getD_eq_getElem?_getD, List.getElem?_set_ne h]
      rw [e, ih]
      by_cases h2 : a ≤ j ∧ j < a + i
      · rw [if_pos h2, if_pos (by omega)]
      · rw [if_neg h2, if_neg (by omega)]
theorem spoil_zip (s x : List UInt8) (a : Nat) (hx : x.length = 4) (ha : a + 4 ≤ s.length) :
    spoil s x a 4 = List.zipWith (· ^^^ ·) s (List.replicate a 0 ++ (x ++ List.replicate (s.length - a - 4) 0)) := by
  have hl := spoil_length s x a 4
  have hel : (List.replicate a 0 ++ (x ++ List.replicate (s.length - a - 4) 0) : List UInt8).length = s.length := by simp; omega
  apply List.ext_getElem
  · rw [hl, List.length_zipWith, hel]; omega
  · intro j h1 h2
    have hj : j < s.length := by omega
    have h := spoil_get s x a 4 j hj ha
    rw [List.getD_eq_getElem?_getD, List.getElem?_eq_getElem h1, Option.getD_some] at h
    rw [h, List.getElem_zipWith]
    have hsj : s.getD j 0 = s[j] := by rw [List.getD_eq_getElem?_getD, List.getElem?_eq_getElem hj, Option.getD_some]
    rw [hsj]
    by_cases hc : a ≤ j ∧ j < a + 4
    · rw [if_pos hc]
      congr 1
      rw [List.getElem_append_right (by simp; omega), List.getElem_append_left (by simp; omega)]
      rw [List.getD_eq_getElem?_getD, List.getElem?_eq_getElem (by omega), Option.getD_some]
      simp
    · rw [if_neg hc]
      by_cases hlt : j < a
      · rw [List.getElem_append_left (by simpa using hlt)]
        simp
      · rw [List.getElem_append_right (by simp; omega), List.getElem_append_right (by simp; omega)]
        simp
theorem spoil_no (b x : List UInt8) (a : Nat) (hx : x.length = 4) (ha : a ≤ b.length) (hne : ∃ y ∈ x, y ≠ 0) : ¬ isSeal (spoil (sealB b) x a 4) :=
  spoilt_no (seal_is b) hx (by rw [sealB_length]; omega) (spoil_zip _ _ _ hx (by rw [sealB_length]; omega)) hne

set_option maxRecDepth 100000 in
set_option maxHeartbeats 2000000 in
theorem crcSpoilt_walk (A : Option Addr) (c : Nat) (bs : List UInt8) (a : Int) (x0 x1 x2 x3 : UInt8) (w : World) (hb : RdB w A bs) (_hcap : bs.length ≤ c) (_hcm : c ≤ 9223372036854775807) (ha1 : -9223372036854775808 ≤ a) (ha2 : a ≤ 9223372036854775807) :
    Calls Try.prog 7 #[.slice A bs.length c, .int .i64 a, .agg #[.int .u8 x0.toNat, .int .u8 x1.toNat, .int .u8 x2.toNat, .int .u8 x3.toNat]] w (RetV w (.bool true)) := by
  by_cases hl : 1500 < bs.length
  · clear hb
    go_enter Try.func7, Try.ntmps7
    go_wp2_with fail
    have E0 := Lib.hid ((Ext.refl w).alloc (.cells #[.int .u8 x0.toNat, .int .u8 x1.toNat, .int .u8 x2.toNat, .int .u8 x3.toNat] 42))
    refine (awake02 _).mono ?_
    rintro e w1 ⟨rfl, e1⟩
    have E1 := Lib.hid (E0.out.trans e1)
    clear e1
    go_wp2_with fail
    go_ret
    exact ⟨rfl, E1.out⟩
  by_cases h0 : a < 0
  · clear hb
    go_enter Try.func7, Try.ntmps7
    go_wp2_with fail
    have E0 := Lib.hid ((Ext.refl w).alloc (.cells #[.int .u8 x0.toNat, .int .u8 x1.toNat, .int .u8 x2.toNat, .int .u8 x3.toNat] 42))
    refine (awake02 _).mono ?_
    rintro e w1 ⟨rfl, e1⟩
    have E1 := Lib.hid (E0.out.trans e1)
    clear e1
    go_wp2_with fail
    go_ret
    exact ⟨rfl, E1.out⟩
  by_cases h1 : bs.length < a
  · clear hb
    go_enter Try.func7, Try.ntmps7
    go_wp2_with fail
    have E0 := Lib.hid ((Ext.refl w).alloc (.cells #[.int .u8 x0.toNat, .int .u8 x1.toNat, .int .u8 x2.toNat, .int .u8 x3.toNat] 42))
    refine (awake02 _).mono ?_
    rintro e w1 ⟨rfl, e1⟩
    have E1 := Lib.hid (E0.out.trans e1)
    clear e1
    go_wp2_with fail
    go_ret
    exact ⟨rfl, E1.out⟩
  obtain ⟨k, rfl⟩ : ∃ k : Nat, a = k := ⟨a.toNat, by omega⟩
  obtain ⟨i0, hi0, _⟩ := info_parts byte_info
  have harr : ∀ W, (Op.equalIn 10000 42 (.agg #[.int .u8 x0.toNat, .int .u8 x1.toNat, .int .u8 x2.toNat, .int .u8 x3.toNat]) (.agg #[.int .u8 0, .int .u8 0, .int .u8 0, .int .u8 0])).run Try.prog W = .ok (decide (([x0.toNat, x1.toNat, x2.toNat, x3.toNat] : List Int) = [0, 0, 0, 0])) W :=
    fun W => run_arrEq W 9998 42 5 .u8 i0 [x0.toNat, x1.toNat, x2.toNat, x3.toNat] [0, 0, 0, 0] Try.underlying42 Try.underlying5 hi0 (by kernel_rfl) (by kernel_rfl) rfl
  by_cases hz : ([x0.toNat, x1.toNat, x2.toNat, x3.toNat] : List Int) = [0, 0, 0, 0]
  · rw [decide_eq_true hz] at harr
    clear hb hz
    go_enter Try.func7, Try.ntmps7
    go_wp2_with fail
    have E0 := Lib.hid ((Ext.refl w).alloc (.cells #[.int .u8 x0.toNat, .int .u8 x1.toNat, .int .u8 x2.toNat, .int .u8 x3.toNat] 42))
    refine (awake02 _).mono ?_
    rintro e w1 ⟨rfl, e1⟩
    have E1 := Lib.hid (E0.out.trans e1)
    clear e1
    go_wp2_with fail
    go_ret
    exact ⟨rfl, E1.out⟩
  rw [decide_eq_false hz] at harr
  have HNE : Hid (∃ y ∈ [x0, x1, x2, x3], y ≠ 0) := by
    show ∃ y ∈ [x0, x1, x2, x3], y ≠ 0
    refine Classical.byContradiction fun hn => hz ?_
    have h : ∀ y ∈ [x0, x1, x2, x3], y = 0 := fun y hy => Classical.byContradiction fun hc => hn ⟨y, hy, hc⟩
    rw [h x0 (by simp), h x1 (by simp), h x2 (by simp), h x3 (by simp)]
    rfl
  have Hb := Lib.hid hb
  have d1 : decide (1500 < (bs.length : Int)) = false := by simp; omega
  have hSl : (sealB bs).length ≤ 1504 := by rw [sealB_length]; omega
  have hSk : k + 4 ≤ (sealB bs).length := by rw [sealB_length]; omega
  clear hb hz
  go_enter Try.func7, Try.ntmps7
  go_wp2_with fail
  clear harr
  have E0 := Lib.hid ((Ext.refl w).alloc (.cells #[.int .u8 x0.toNat, .int .u8 x1.toNat, .int .u8 x2.toNat, .int .u8 x3.toNat] 42))
  have HX : Hid (Rd (w.alloc (.cells #[.int .u8 x0.toNat, .int .u8 x1.toNat, .int .u8 x2.toNat, .int .u8 x3.toNat] 42)) (some ⟨w.heap.size, 0, none⟩) ([x0, x1, x2, x3].map bv)) := Rd.of_block (heap_new w _)
  have hsz : w.heap.size < (w.alloc (.cells #[.int .u8 x0.toNat, .int .u8 x1.toNat, .int .u8 x2.toNat, .int .u8 x3.toNat] 42)).heap.size := by simp
  generalize w.alloc (.cells #[.int .u8 x0.toNat, .int .u8 x1.toNat, .int .u8 x2.toNat, .int .u8 x3.toNat] 42) = w0 at *
  refine (rseal_calls A c bs _ (Hb.out.ext E0.out) (by omega)).mono ?_
  rintro e w1 ⟨A1, c1, rfl, h1, e1⟩
  have HS0 : Hid (spoil (sealB bs) [x0, x1, x2, x3] k 0 = sealB bs) := rfl
  have HNo : Hid (¬ isSeal (spoil (sealB bs) [x0, x1, x2, x3] k 4)) := spoil_no bs _ k rfl (by omega) HNE.out
  have hcap1 := h1.cap; have hcm1 := h1.capmax
  generalize sealB bs = S at *
  obtain ⟨gs, rfl, hgs⟩ : ∃ gs, A1 = some ⟨gs, 0, none⟩ ∧ w0.heap.size ≤ gs := by
    rcases h1.2 with ⟨_, h0⟩ | ⟨g, cap, cur, hv, hb, _⟩
    · omega
    · injection hv with hA; exact ⟨g, hA, hb⟩
  have H1 := Lib.hid h1
  have E1 := Lib.hid (E0.out.trans e1)
  have HX1 := Lib.hid (HX.out.ext e1)
  clear h1 e1
  have hgne : w.heap.size ≠ gs := by omega
  go_wp2_with fail
  go_loopw [8] (fun i wr => ∃ j : Nat, j ≤ 4 ∧ i = .int .i64 j ∧ OwnB wr w0.heap.size (some ⟨gs, 0, none⟩) c1 (spoil S [x0, x1, x2, x3] k j) ∧ Rd wr (some ⟨w.heap.size, 0, none⟩) ([x0, x1, x2, x3].map bv) ∧ Ext w wr) (fun i _ => 4 - (intOf i).toNat)
  case atStart => exact ⟨0, by omega, rfl, H1.out, HX1.out, E1.out⟩
  case round =>
    obtain ⟨j, hj, rfl, hown, hrx, hext⟩ := hrel
    have HO := Lib.hid hown
    have HR := Lib.hid hrx
    have HE := Lib.hid hext
    clear hown hrx hext
    by_cases hj4 : j < 4
    · have hlen : (spoil S [x0, x1, x2, x3] k j).length = S.length := spoil_length _ _ _ _
      obtain ⟨ad, hA, hcs⟩ := HO.out.rd.at_ (k := k + j) (by rw [hlen]; omega)
      cases hA
      rw [add_mk, Nat.zero_add] at hcs
      obtain ⟨ad, hA, hcx⟩ := HR.out.at_ (k := j) (by simpa using hj4)
      cases hA
      rw [add_mk, Nat.zero_add, List.getElem_map, bv_eq] at hcx
      have hfz : wr.frozen? ⟨gs, k + j, none⟩ = false := by
        have h := HO.out
        unfold OwnB at h
        exact World.ownsRow.frozenAt h (k + j)
      rw [show (spoil S [x0, x1, x2, x3] k j)[k + j]'(by rw [hlen]; omega) = (spoil S [x0, x1, x2, x3] k j).getD (k + j) 0 from by rw [List.getD_eq_getElem?_getD, List.getElem?_eq_getElem (by rw [hlen]; omega), Option.getD_some]] at hcs
      rw [show [x0, x1, x2, x3][j]'(by simpa using hj4) = [x0, x1, x2, x3].getD j 0 from by rw [List.getD_eq_getElem?_getD, List.getElem?_eq_getElem (by simpa using hj4), Option.getD_some]] at hcx
      have HN : Hid (spoil S [x0, x1, x2, x3] k (j + 1) = (spoil S [x0, x1, x2, x3] k j).set (k + j) ((spoil S [x0, x1, x2, x3] k j).getD (k + j) 0 ^^^ [x0, x1, x2, x3].getD j 0)) := rfl
      generalize (spoil S [x0, x1, x2, x3] k j).getD (k + j) 0 = u at *
      generalize [x0, x1, x2, x3].getD j 0 = v at *
      have hxr := u8_xor_nat u.toNat v.toNat u.toNat_lt v.toNat_lt
      rw [← UInt8.toNat_xor] at hxr
      have hsum : IntKind.i64.wrap ((k : Int) + j) = (k : Int) + j := IntWalk.i64_in _ (by omega)
      have hs1 : (0 : Int) ≤ (k : Int) + j := by omega
      have hs2 : ((k : Int) + j).toNat = k + j := by omega
      have hs3 : (k : Int) + j < S.length := by omega
      have hs4 : (j : Int) < 4 := by omega
      have HL := Lib.hid hlen
      clear hlen
      go_wp2_with fail
      go_region
      clear hsum hs1 hs2 hs3 hs4
      go_wp2_with fail
      go_roundw
      case rel =>
        refine ⟨j + 1, by omega, by go_num, ?_, ?_, ?_⟩
        · rw [HN.out]
          have h := (HO.out.store (k + j) (u ^^^ v)).ext ((Ext.refl _).drew)
          rw [UInt8.toNat_xor] at h
          exact h
        · refine (HR.out.grown (grown_setCell wr gs (k + j) _) ?_).ext ((Ext.refl _).drew)
          intro ad had hb
          cases had
          injection hb with hb
          exact hgne hb
        · exact (HE.out.setCell (p := ⟨gs, k + j, none⟩) (by show _ ≤ gs; omega) _).drew
      case measure => simp [intOf]; omega
    · obtain rfl : j = 4 := by omega
      have HOp : Hid (openR (spoil S [x0, x1, x2, x3] k 4) = ([], false)) := by show _ = _; rw [openR, if_neg HNo.out]
      have hlen : (spoil S [x0, x1, x2, x3] k 4).length = S.length := spoil_length _ _ _ _
      have HL := Lib.hid hlen
      clear hlen
      have hopen : Hid (Calls Try.prog 30 #[.slice (some ⟨gs, 0, none⟩) S.length c1] wr (RetB2 wr [] (.bool false))) := by
        have h := open_calls (some ⟨gs, 0, none⟩) c1 (spoil S [x0, x1, x2, x3] k 4) wr HO.out.rd (by rw [HL.out]; omega) (by rw [HL.out]; exact hcap1) hcm1
        rw [HOp.out, HL.out] at h
        exact h
      go_wp2_with fail
      refine hopen.out.mono ?_
      rintro e w5 ⟨A5, c5, rfl, h5, e5⟩
      have E5 := Lib.hid (HE.out.trans e5)
      clear h5 e5
      go_wp2_with fail
      refine (awake02 _).mono ?_
      rintro e w6 ⟨rfl, e6⟩
      have E6 := Lib.hid (E5.out.trans e6)
      clear e6
      go_wp2_with fail
      go_ret
      exact ⟨rfl, E6.out⟩
end Go.Proofs.Ytjbejaieihchmaa
