/- The law HmacKeys. -/
import Derived.Test.YtbbillankhofkaaDoorHmac3
import Derived.Test.YtbbillankhofkaaDoorArrEq
set_option maxRecDepth 100000
namespace Go.Proofs.YtbbillankhofkaaDoor
open Go.RowKit

theorem key64_more (k : List UInt8) (m : Nat) (h : k.length + m ≤ 64) : key64 (k ++ List.replicate m 0) = key64 k := by
  have h1 : keyP (k ++ List.replicate m 0) = k ++ List.replicate m 0 := if_neg (by simp; omega)
  have h2 : keyP k = k := if_neg (by omega)
  unfold key64
  rw [h1, h2, List.append_assoc, List.length_append, List.length_replicate, List.replicate_append_replicate]
  congr 2
  omega
theorem key64_sum (k : List UInt8) (h : 64 < k.length) : key64 (Sha.sum k) = key64 k := by
  have h1 : keyP (Sha.sum k) = Sha.sum k := if_neg (by rw [Sha.sum_length]; omega)
  have h2 : keyP k = Sha.sum k := if_pos h
  unfold key64
  rw [h1, h2]
theorem tag_of_key {k l : List UInt8} (h : key64 l = key64 k) (b : List UInt8) : tagB l b = tagB k b := by unfold tagB; rw [h]

theorem arr32_eq (T : List UInt8) (hT : T.length = 32) (W : World) : (Op.equalIn 10000 24 (.agg (bvs T)) (.agg (bvs T))).run Tryd.prog W = .ok true W := by
  obtain ⟨i0, hi0, _⟩ := info_parts byte_info
  have hl : (T.map fun b => (b.toNat : Int)).length = 32 := by simp [hT]
  have h := run_arrEq (P := Tryd.prog) W 9998 24 5 .u8 i0 (T.map fun b => (b.toNat : Int)) (T.map fun b => (b.toNat : Int)) (by rw [hl]; exact Tryd.underlying24) Tryd.underlying5 hi0 (by kernel_rfl) (by kernel_rfl) rfl
  have e : ((T.map fun b => (b.toNat : Int)).map (Value.int .u8)).toArray = bvs T := by unfold bvs; rw [List.map_map]; rfl
  rw [e] at h
  rw [h]
  simp

set_option maxHeartbeats 2000000 in
theorem hmacKeys_walk (A B : Option Addr) (c d : Nat) (key b : List UInt8) (z : Nat) (w : World) (hk : RdB w A key) (hb : RdB w B b) (hkc : key.length ≤ c) (hc : c ≤ 9223372036854775807) (hbl : b.length ≤ 9223372036854775807) (hz : z < 256) (hL : Laid w) :
    Calls Tryd.prog 7 #[.slice A key.length c, .int .u8 z, .slice B b.length d] w (RetV w (.bool true)) := by
  have Hk := Lib.hid hk
  have Hb := Lib.hid hb
  have HL := Lib.hid hL
  clear hk hb hL
  by_cases h1 : 300 < key.length
  · go_enter Tryd.func7, Tryd.ntmps7
    go_wp2_with fail
    refine (awake04 _ HL.out).mono ?_
    rintro e w1 ⟨rfl, he⟩
    have He := Lib.hid he
    clear he
    go_wp2_with fail
    go_ret
    exact ⟨rfl, He.out⟩
  by_cases h2 : 500 < b.length
  · go_enter Tryd.func7, Tryd.ntmps7
    go_wp2_with fail
    refine (awake04 _ HL.out).mono ?_
    rintro e w1 ⟨rfl, he⟩
    have He := Lib.hid he
    clear he
    go_wp2_with fail
    go_ret
    exact ⟨rfl, He.out⟩
  have HTL := Lib.hid (tagB_length key b)
  have HQ := Lib.hid (arr32_eq (tagB key b) (tagB_length key b))
  go_enter Tryd.func7, Tryd.ntmps7
  go_wp2_with (at_builtin; refine cpyE w rfl (.tmp 18) (.tmp 19) rfl rfl A c key rfl ?_ Hk.out ?c1; intro A2 c2 w2 h2 e2; have O2 := Lib.hid h2; have E2 := Lib.hid e2; clear h2 e2)
  case c1 => omega
  go_loopw [7, 8] (fun out i wr => ∃ (k m : Nat) (L : List UInt8) (C : Option Addr) (e : Nat), k ≤ z ∧ i = .int .i64 k ∧ L = key ++ List.replicate m 0 ∧ (m = 0 ∨ key.length + m ≤ 64) ∧ out = .slice C L.length e ∧ OwnB wr w.heap.size C e L ∧ Ext w wr) (fun _ i _ => 256 - (intOf i).toNat)
  case atStart => exact ⟨0, 0, key, A2, c2, by omega, rfl, by simp, .inl rfl, rfl, O2.out, E2.out⟩
  case round =>
    clear O2 E2
    rename_i wr
    obtain ⟨k, m, L, C, e, hkz, rfl, hLk, hm, rfl, hown, hext⟩ := hrel
    have HO := Lib.hid hown
    have HE := Lib.hid hext
    have hll : L.length ≤ 400 := by rw [hLk, List.length_append, List.length_replicate]; omega
    have HLk := Lib.hid hLk
    have HM := Lib.hid hm
    have HLL : Hid (L.length = key.length + m) := by show _ = _; rw [hLk, List.length_append, List.length_replicate]
    clear hown hext hLk hm
    by_cases hlt : k < z ∧ L.length < 64
    · obtain ⟨hlt1, hlt2⟩ := hlt
      go_wp2_with (at_builtin; refine appB _ rfl (.tmp 32) (.tmp 33) rfl w.heap.size C e L rfl _ _ [0] rfl ?_ (OwnB.ext HO.out ((Ext.refl _).alloc _)) (RdB.one _ _ _ _ rfl) ?c2 ?c3; intro A' c' w' h1 h2 h3; have K1 := Lib.hid h1; have K2 := Lib.hid ((HE.out.alloc _).grown h2 (fun g hg => (HO.out.base_ g hg).1)); clear h1 h2 h3)
      case c2 => simp; omega
      case c3 => simp; have := HE.out.size; omega
      go_roundw
      case rel => exact ⟨k + 1, m + 1, L ++ [0], A', c', by omega, by go_num, by rw [HLk.out, List.replicate_succ', List.append_assoc], .inr (by have := HLL.out; omega), by simp, K1.out, K2.out⟩
      case measure => simp [intOf]; omega
    · by_cases hbig : 64 < key.length
      · have ht2 : ¬ L.length < 64 := by have := HLL.out; omega
        have HTT := Lib.hid (tag_of_key (key64_sum key hbig) b)
        have hSS : (Sha.sum key).length ≤ 100000 := by rw [Sha.sum_length]; omega
        by_cases hk1 : k < z
        all_goals
          clear hlt
          go_wp2_with fail
          refine (rsumS_calls A c key _ (Hk.out.ext HE.out) (by omega)).mono ?_
          rintro er w3 ⟨A3, c3, rfl, o3, e3⟩
          have O3 := Lib.hid o3
          have E3 := Lib.hid (HE.out.trans e3)
          clear o3 e3
          go_wp2_with fail
          refine (tag_calls A B c d key b _ (Hk.out.ext E3.out) (Hb.out.ext E3.out) (by omega) (by omega) hkc hc (HL.out.ext E3.out)).mono ?_
          rintro er w4 ⟨rfl, e4⟩
          have E4 := Lib.hid e4
          clear e4
          go_wp2_with fail
          refine (tag_calls A3 B c3 d (Sha.sum key) b _ (O3.out.rd.ext E4.out) (Hb.out.ext (E3.out.trans E4.out)) hSS (by omega) O3.out.cap O3.out.capmax (HL.out.ext (E3.out.trans E4.out))).mono ?_
          rintro er w5 ⟨rfl, e5⟩
          have E5 := Lib.hid ((E3.out.trans E4.out).trans e5)
          rw [HTT.out]
          clear e5
          have hq := HQ.out
          generalize tagB key b = T at *
          go_wp2_with fail
          refine (awake04 _ (HL.out.ext E5.out)).mono ?_
          rintro er w6 ⟨rfl, e6⟩
          have E6 := Lib.hid (E5.out.trans e6)
          clear e6
          go_wp2_with fail
          go_ret
          exact ⟨rfl, E6.out⟩
      · have hkm : key.length + m ≤ 64 := by rcases HM.out with h | h <;> omega
        have HTT : Hid (tagB L b = tagB key b) := by show _ = _; rw [HLk.out]; exact tag_of_key (key64_more key m hkm) b
        by_cases hk1 : k < z
        · have ht2 : ¬ L.length < 64 := by omega
          clear hlt
          go_wp2_with fail
          refine (tag_calls A B c d key b _ (Hk.out.ext HE.out) (Hb.out.ext HE.out) (by omega) (by omega) hkc hc (HL.out.ext HE.out)).mono ?_
          rintro er w4 ⟨rfl, e4⟩
          have E4 := Lib.hid e4
          clear e4
          go_wp2_with fail
          refine (tag_calls C B e d L b _ (HO.out.rd.ext E4.out) (Hb.out.ext (HE.out.trans E4.out)) (by omega) (by omega) HO.out.cap HO.out.capmax (HL.out.ext (HE.out.trans E4.out))).mono ?_
          rintro er w5 ⟨rfl, e5⟩
          have E5 := Lib.hid ((HE.out.trans E4.out).trans e5)
          rw [HTT.out]
          clear e5
          have hq := HQ.out
          generalize tagB key b = T at *
          go_wp2_with fail
          refine (awake04 _ (HL.out.ext E5.out)).mono ?_
          rintro er w6 ⟨rfl, e6⟩
          have E6 := Lib.hid (E5.out.trans e6)
          clear e6
          go_wp2_with fail
          go_ret
          exact ⟨rfl, E6.out⟩
        · clear hlt
          go_wp2_with fail
          refine (tag_calls A B c d key b _ (Hk.out.ext HE.out) (Hb.out.ext HE.out) (by omega) (by omega) hkc hc (HL.out.ext HE.out)).mono ?_
          rintro er w4 ⟨rfl, e4⟩
          have E4 := Lib.hid e4
          clear e4
          go_wp2_with fail
          refine (tag_calls C B e d L b _ (HO.out.rd.ext E4.out) (Hb.out.ext (HE.out.trans E4.out)) (by omega) (by omega) HO.out.cap HO.out.capmax (HL.out.ext (HE.out.trans E4.out))).mono ?_
          rintro er w5 ⟨rfl, e5⟩
          have E5 := Lib.hid ((HE.out.trans E4.out).trans e5)
          rw [HTT.out]
          clear e5
          have hq := HQ.out
          generalize tagB key b = T at *
          go_wp2_with fail
          refine (awake04 _ (HL.out.ext E5.out)).mono ?_
          rintro er w6 ⟨rfl, e6⟩
          have E6 := Lib.hid (E5.out.trans e6)
          clear e6
          go_wp2_with fail
          go_ret
          exact ⟨rfl, E6.out⟩
end Go.Proofs.YtbbillankhofkaaDoor
