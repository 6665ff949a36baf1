/- The walk of BoxSpoilt. -/
import Derived.Test.YtjbejaieihchmaaLaw02c
import Derived.Test.YtjbejaieihchmaaNext
namespace Go.Proofs.Ytjbejaieihchmaa
open Go.RowKit

theorem boxB_take2 (b : List UInt8) : (boxB b).take 2 = leB 2 b.length := by
  rw [boxB, sealB, innerB, List.append_assoc, List.take_append_of_le_length (by rw [leB_length]; omega), List.take_of_length_le (by rw [leB_length]; omega)]
theorem spoil_take (s x : List UInt8) (a : Nat) (ha : 2 + a + 4 ≤ s.length) : (spoil s x (2 + a) 4).take 2 = s.take 2 := by
  have hl := spoil_length s x (2 + a) 4
  apply List.ext_getElem
  · simp [hl]
  · intro j h1 h2
    have hj : j < 2 := by simp at h1; omega
    have h := spoil_get s x (2 + a) 4 j (by omega) ha
    rw [if_neg (by omega), List.getD_eq_getElem?_getD, List.getD_eq_getElem?_getD, List.getElem?_eq_getElem (by omega), List.getElem?_eq_getElem (by omega), Option.getD_some, Option.getD_some] at h
    simpa using h
theorem box_spoilt (b x : List UInt8) (a : Nat) (hb1 : 1 ≤ b.length) (hb2 : b.length ≤ 4096) (hx : x.length = 4) (ha : a ≤ b.length) (hne : ∃ y ∈ x, y ≠ 0) :
    nextK (spoil (boxB b) x (2 + a) 4) 0 = ([], 0, 4) := by
  have hl : (spoil (boxB b) x (2 + a) 4).length = b.length + 6 := by rw [spoil_length, boxB_length]
  have hn : leN ((spoil (boxB b) x (2 + a) 4).take 2) = b.length := by
    rw [spoil_take _ _ _ (by rw [boxB_length]; omega), boxB_take2, leN_leB, Nat.mod_eq_of_lt (by omega)]
  have hs : ¬ isSeal (spoil (boxB b) x (2 + a) 4) := spoil_no (innerB b) x (2 + a) hx (by rw [innerB_length]; omega) hne
  rw [nextK]
  simp only [List.drop_zero]
  rw [hn, hl, if_neg (by omega), if_neg (by omega), if_neg (by omega), if_neg (by omega), List.take_of_length_le (by omega), if_neg hs]

set_option maxRecDepth 100000 in
set_option maxHeartbeats 2000000 in
theorem boxSpoilt_walk (A : Option Addr) (c : Nat) (bs : List UInt8) (a : Int) (x0 x1 x2 x3 : UInt8) (w : World) (hb : RdB w A bs) (hcm : bs.length ≤ 9223372036854775807) (ha1 : -9223372036854775808 ≤ a) (ha2 : a ≤ 9223372036854775807) :
    Calls Try.prog 11 #[.slice A bs.length c, .int .i64 a, .agg #[.int .u8 x0.toNat, .int .u8 x1.toNat, .int .u8 x2.toNat, .int .u8 x3.toNat]] w (RetV w (.bool true)) := by
  by_cases hz0 : bs.length = 0
  · clear hb
    have hz1 : ((bs.length : Int) == 0) = true := by simp [hz0]
    clear hz0
    go_enter Try.func11, Try.ntmps11
    go_wp2_with fail
    have E0 := Lib.hid ((Ext.refl w).alloc (.cells #[.int .u8 x0.toNat, .int .u8 x1.toNat, .int .u8 x2.toNat, .int .u8 x3.toNat] 42))
    refine (awake12 _).mono ?_
    rintro e w1 ⟨rfl, e1⟩
    have E1 := Lib.hid (E0.out.trans e1)
    clear e1
    go_wp2_with fail
    go_ret
    exact ⟨rfl, E1.out⟩
  have hz1 : ((bs.length : Int) == 0) = false := beq_eq_false_iff_ne.2 (by omega)
  by_cases hl : 300 < bs.length
  · clear hb
    go_enter Try.func11, Try.ntmps11
    go_wp2_with fail
    have E0 := Lib.hid ((Ext.refl w).alloc (.cells #[.int .u8 x0.toNat, .int .u8 x1.toNat, .int .u8 x2.toNat, .int .u8 x3.toNat] 42))
    refine (awake12 _).mono ?_
    rintro e w1 ⟨rfl, e1⟩
    have E1 := Lib.hid (E0.out.trans e1)
    clear e1
    go_wp2_with fail
    go_ret
    exact ⟨rfl, E1.out⟩
  by_cases h0 : a < 0
  · clear hb
    go_enter Try.func11, Try.ntmps11
    go_wp2_with fail
    have E0 := Lib.hid ((Ext.refl w).alloc (.cells #[.int .u8 x0.toNat, .int .u8 x1.toNat, .int .u8 x2.toNat, .int .u8 x3.toNat] 42))
    refine (awake12 _).mono ?_
    rintro e w1 ⟨rfl, e1⟩
    have E1 := Lib.hid (E0.out.trans e1)
    clear e1
    go_wp2_with fail
    go_ret
    exact ⟨rfl, E1.out⟩
  by_cases h1 : bs.length < a
  · clear hb
    go_enter Try.func11, Try.ntmps11
    go_wp2_with fail
    have E0 := Lib.hid ((Ext.refl w).alloc (.cells #[.int .u8 x0.toNat, .int .u8 x1.toNat, .int .u8 x2.toNat, .int .u8 x3.toNat] 42))
    refine (awake12 _).mono ?_
    rintro e w1 ⟨rfl, e1⟩
    have E1 := Lib.hid (E0.out.trans e1)
    clear e1
    go_wp2_with fail
    go_ret
    exact ⟨rfl, E1.out⟩
  obtain ⟨k, rfl⟩ : ∃ k : Nat, a = k := ⟨a.toNat, by omega⟩
  obtain ⟨i0, hi0, _⟩ := info_parts byte_info
  have harr : ∀ W, (Op.equalIn 10000 42 (.agg #[.int .u8 x0.toNat, .int .u8 x1.toNat, .int .u8 x2.toNat, .int .u8 x3.toNat]) (.agg #[.int .u8 0, .int .u8 0, .int .u8 0, .int .u8 0])).run Try.prog W = .ok (decide (([x0.toNat, x1.toNat, x2.toNat, x3.toNat] : List Int) = [0, 0, 0, 0])) W :=
    fun W => run_arrEq W 9998 42 5 .u8 i0 [x0.toNat, x1.toNat, x2.toNat, x3.toNat] [0, 0, 0, 0] Try.underlying42 Try.underlying5 hi0 (by kernel_rfl) (by kernel_rfl) rfl
  by_cases hz : ([x0.toNat, x1.toNat, x2.toNat, x3.toNat] : List Int) = [0, 0, 0, 0]
  · rw [decide_eq_true hz] at harr
    clear hb hz
    go_enter Try.func11, Try.ntmps11
    go_wp2_with fail
    have E0 := Lib.hid ((Ext.refl w).alloc (.cells #[.int .u8 x0.toNat, .int .u8 x1.toNat, .int .u8 x2.toNat, .int .u8 x3.toNat] 42))
    refine (awake12 _).mono ?_
    rintro e w1 ⟨rfl, e1⟩
    have E1 := Lib.hid (E0.out.trans e1)
    clear e1
    go_wp2_with fail
    go_ret
    exact ⟨rfl, E1.out⟩
  rw [decide_eq_false hz] at harr
  have HNE : Hid (∃ y ∈ [x0, x1, x2, x3], y ≠ 0) := by
    show ∃ y ∈ [x0, x1, x2, x3], y ≠ 0
    refine Classical.byContradiction fun hn => hz ?_
    have h : ∀ y ∈ [x0, x1, x2, x3], y = 0 := fun y hy => Classical.byContradiction fun hc => hn ⟨y, hy, hc⟩
    rw [h x0 (by simp), h x1 (by simp), h x2 (by simp), h x3 (by simp)]
    rfl
  have Hb := Lib.hid hb
  have d1 : decide (300 < (bs.length : Int)) = false := by simp; omega
  have hSl : (boxB bs).length ≤ 306 := by rw [boxB_length]; omega
  have hSk : 2 + k + 4 ≤ (boxB bs).length := by rw [boxB_length]; omega
  clear hb hz
  go_enter Try.func11, Try.ntmps11
  go_wp2_with fail
  clear harr
  have E0 := Lib.hid ((Ext.refl w).alloc (.cells #[.int .u8 x0.toNat, .int .u8 x1.toNat, .int .u8 x2.toNat, .int .u8 x3.toNat] 42))
  have HX : Hid (Rd (w.alloc (.cells #[.int .u8 x0.toNat, .int .u8 x1.toNat, .int .u8 x2.toNat, .int .u8 x3.toNat] 42)) (some ⟨w.heap.size, 0, none⟩) ([x0, x1, x2, x3].map bv)) := Rd.of_block (heap_new w _)
  have hsz : w.heap.size < (w.alloc (.cells #[.int .u8 x0.toNat, .int .u8 x1.toNat, .int .u8 x2.toNat, .int .u8 x3.toNat] 42)).heap.size := by simp
  generalize w.alloc (.cells #[.int .u8 x0.toNat, .int .u8 x1.toNat, .int .u8 x2.toNat, .int .u8 x3.toNat] 42) = w0 at *
  refine (rbox_calls A c bs _ (Hb.out.ext E0.out) (by omega)).mono ?_
  rintro e w1 ⟨A1, c1, rfl, h1, e1⟩
  have HS0 : Hid (spoil (boxB bs) [x0, x1, x2, x3] (2 + k) 0 = boxB bs) := rfl
  have HNo : Hid (nextK (spoil (boxB bs) [x0, x1, x2, x3] (2 + k) 4) 0 = ([], 0, 4)) := box_spoilt bs _ k (by omega) (by omega) rfl (by omega) HNE.out
  have hcap1 := h1.cap; have hcm1 := h1.capmax
  generalize boxB bs = S at *
  obtain ⟨gs, rfl, hgs⟩ : ∃ gs, A1 = some ⟨gs, 0, none⟩ ∧ w0.heap.size ≤ gs := by
    rcases h1.2 with ⟨_, h0⟩ | ⟨g, cap, cur, hv, hb, _⟩
    · omega
    · injection hv with hA; exact ⟨g, hA, hb⟩
  have H1 := Lib.hid h1
  have E1 := Lib.hid (E0.out.trans e1)
  have HX1 := Lib.hid (HX.out.ext e1)
  clear h1 e1
  have hgne : w.heap.size ≠ gs := by omega
  go_wp2_with fail
  go_loopw [8] (fun i wr => ∃ j : Nat, j ≤ 4 ∧ i = .int .i64 j ∧ OwnB wr w0.heap.size (some ⟨gs, 0, none⟩) c1 (spoil S [x0, x1, x2, x3] (2 + k) j) ∧ Rd wr (some ⟨w.heap.size, 0, none⟩) ([x0, x1, x2, x3].map bv) ∧ Ext w wr) (fun i _ => 4 - (intOf i).toNat)
  case atStart => exact ⟨0, by omega, rfl, H1.out, HX1.out, E1.out⟩
  case round =>
    obtain ⟨j, hj, rfl, hown, hrx, hext⟩ := hrel
    have HO := Lib.hid hown
    have HR := Lib.hid hrx
    have HE := Lib.hid hext
    clear hown hrx hext
    by_cases hj4 : j < 4
    · have hlen : (spoil S [x0, x1, x2, x3] (2 + k) j).length = S.length := spoil_length _ _ _ _
      obtain ⟨ad, hA, hcs⟩ := HO.out.rd.at_ (k := 2 + k + j) (by rw [hlen]; omega)
      cases hA
      rw [add_mk, Nat.zero_add] at hcs
      obtain ⟨ad, hA, hcx⟩ := HR.out.at_ (k := j) (by simpa using hj4)
      cases hA
      rw [add_mk, Nat.zero_add, List.getElem_map, bv_eq] at hcx
      have hfz : wr.frozen? ⟨gs, 2 + k + j, none⟩ = false := by
        have h := HO.out
        unfold OwnB at h
        exact World.ownsRow.frozenAt h (2 + k + j)
      rw [show (spoil S [x0, x1, x2, x3] (2 + k) j)[2 + k + j]'(by rw [hlen]; omega) = (spoil S [x0, x1, x2, x3] (2 + k) j).getD (2 + k + j) 0 from by rw [List.getD_eq_getElem?_getD, List.getElem?_eq_getElem (by rw [hlen]; omega), Option.getD_some]] at hcs
      rw [show [x0, x1, x2, x3][j]'(by simpa using hj4) = [x0, x1, x2, x3].getD j 0 from by rw [List.getD_eq_getElem?_getD, List.getElem?_eq_getElem (by simpa using hj4), Option.getD_some]] at hcx
      have HN : Hid (spoil S [x0, x1, x2, x3] (2 + k) (j + 1) = (spoil S [x0, x1, x2, x3] (2 + k) j).set (2 + k + j) ((spoil S [x0, x1, x2, x3] (2 + k) j).getD (2 + k + j) 0 ^^^ [x0, x1, x2, x3].getD j 0)) := rfl
      generalize (spoil S [x0, x1, x2, x3] (2 + k) j).getD (2 + k + j) 0 = u at *
      generalize [x0, x1, x2, x3].getD j 0 = v at *
      have hxr := u8_xor_nat u.toNat v.toNat u.toNat_lt v.toNat_lt
      rw [← UInt8.toNat_xor] at hxr
      have hsum0 : IntKind.i64.wrap (2 + (k : Int)) = 2 + (k : Int) := IntWalk.i64_in _ (by omega)
      have hsum : IntKind.i64.wrap (2 + (k : Int) + j) = 2 + (k : Int) + j := IntWalk.i64_in _ (by omega)
      have hs1 : (0 : Int) ≤ 2 + (k : Int) + j := by omega
      have hs2 : (2 + (k : Int) + j).toNat = 2 + k + j := by omega
      have hs3 : 2 + (k : Int) + j < S.length := by omega
      have hs4 : (j : Int) < 4 := by omega
      have HL := Lib.hid hlen
      clear hlen
      go_wp2_with fail
      go_region
      clear hsum hsum0 hs1 hs2 hs3 hs4
      go_wp2_with fail
      go_roundw
      case rel =>
        refine ⟨j + 1, by omega, by go_num, ?_, ?_, ?_⟩
        · rw [HN.out]
          have h := (HO.out.store (2 + k + j) (u ^^^ v)).ext ((Ext.refl _).drew)
          rw [UInt8.toNat_xor] at h
          exact h
        · refine (HR.out.grown (grown_setCell wr gs (2 + k + j) _) ?_).ext ((Ext.refl _).drew)
          intro ad had hb
          cases had
          injection hb with hb
          exact hgne hb
        · exact (HE.out.setCell (p := ⟨gs, 2 + k + j, none⟩) (by show _ ≤ gs; omega) _).drew
      case measure => simp [intOf]; omega
    · obtain rfl : j = 4 := by omega
      have hlen : (spoil S [x0, x1, x2, x3] (2 + k) 4).length = S.length := spoil_length _ _ _ _
      have HL := Lib.hid hlen
      clear hlen
      have hnext : Hid (Calls Try.prog 40 #[.slice (some ⟨gs, 0, none⟩) S.length c1, .int .i64 0] wr (RetB3 wr [] (.int .i64 0) (.int .i64 4))) := by
        have h := next_k (some ⟨gs, 0, none⟩) c1 (spoil S [x0, x1, x2, x3] (2 + k) 4) 0 wr HO.out.rd (by rw [HL.out]; omega) (by rw [HL.out]; exact hcap1) hcm1 (by omega)
        rw [HNo.out, HL.out] at h
        exact h
      go_wp2_with fail
      refine hnext.out.mono ?_
      rintro e w5 ⟨A5, c5, rfl, h5, e5⟩
      have E5 := Lib.hid (HE.out.trans e5)
      clear h5 e5
      rw [show ([] : List UInt8).length = 0 from rfl]
      go_wp2_with fail
      refine (awake12 _).mono ?_
      rintro e w6 ⟨rfl, e6⟩
      have E6 := Lib.hid (E5.out.trans e6)
      clear e6
      go_wp2_with fail
      go_ret
      exact ⟨rfl, E6.out⟩
end Go.Proofs.Ytjbejaieihchmaa
