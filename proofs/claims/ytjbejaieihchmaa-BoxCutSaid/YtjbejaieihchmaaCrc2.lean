/- The contract of crc.Open. -/
import Derived.Test.YtjbejaieihchmaaBox
import Derived.Test.YtjbejaieihchmaaCursor2
import Derived.Test.YtjbejaieihchmaaPlainCrc2
import Derived.Deep.RegionWith
namespace Go.Proofs.Ytjbejaieihchmaa
open Go.RowKit

def openR (b : List UInt8) : List UInt8 × Bool := if isSeal b then (b.take (b.length - 4), true) else ([], false)

theorem ext_grown' {w w1 w2 : World} {g : Nat} (h : Ext w w1) (hg : w1.grownBy w2 (some g)) (hw : w.heap.size ≤ g) : Ext w w2 :=
  h.grown hg (fun k hk => by cases hk; exact hw)
theorem takeC_full (l : List UInt8) : takeC l 0 0 l.length = (l, l.length, 0) := by simp [takeC]

set_option maxHeartbeats 1000000 in
theorem open_calls (A : Option Addr) (c : Nat) (bs : List UInt8) (w : World) (hb : RdB w A bs) (hl : bs.length ≤ 1000000) (hcap : bs.length ≤ c) (_hcm : c ≤ 9223372036854775807) :
    Calls Try.prog 30 #[.slice A bs.length c] w (RetB2 w (openR bs).1 (.bool (openR bs).2)) := by
  have Hb := Lib.hid hb
  clear hb
  by_cases h4 : bs.length < 4
  · have HO : Hid (openR bs = ([], false)) := by show _ = _; rw [openR, if_neg (fun h => by have := h.1; omega)]
    rw [HO.out]
    go_enter Try.func30, Try.ntmps30
    go_wp2_with fail
    go_ret2
    exact ⟨none, 0, rfl, OwnB.nil _ _, Ext.refl _⟩
  obtain ⟨n, hn⟩ : ∃ n, bs.length = n + 4 := ⟨bs.length - 4, by omega⟩
  have hck : ¬ c = n := by omega
  have HS : Hid (isSeal bs ↔ leN (bs.drop n) = crcSum (bs.take n)) := by
    show _ ↔ _
    unfold isSeal
    rw [hn, Nat.add_sub_cancel]
    exact ⟨fun h => h.2, fun h => ⟨by omega, h⟩⟩
  have HT : Hid (bs.take (bs.length - 4) = bs.take n) := by show _ = _; rw [hn, Nat.add_sub_cancel]
  have HR : Hid (∀ W, Ext w W → RdB W (A.map (·.add n)) (bs.drop n)) := by
    intro W hW
    have h := (Hb.out.ext hW).cut n c hcap
    rw [if_neg hck] at h
    exact h
  have HR2 : Hid (∀ W, Ext w W → RdB W A (bs.take n)) := fun W hW => (Hb.out.ext hW).take n
  have HL1 : Hid ((bs.drop n).length = 4) := by show _ = _; simp; omega
  have HL2 : Hid ((bs.take n).length = n) := by show _ = _; simp; omega
  have hnl : n ≤ 1000000 := by omega
  rw [hn]
  generalize hLd : bs.drop n = L at *
  generalize hTd : bs.take n = T at *
  have hlen4 : ((n + 4 : Nat) : Int) - 4 = (n : Int) := by omega
  have HO : Hid (openR bs = if leN L = crcSum T then (T, true) else ([], false)) := by
    show _ = _
    rw [openR, HT.out]
    by_cases h : isSeal bs
    · rw [if_pos h, if_pos (HS.out.1 h)]
    · rw [if_neg h, if_neg (fun hh => h (HS.out.2 hh))]
  clear hLd hTd
  have hq32 := crcSum_lt T
  have hn32 : leN L < 4294967296 := by have := leN_lt L; rw [HL1.out] at this; exact this
  have hnewC : Hid (Calls Try.prog 32 #[.slice (A.map (·.add n)) 4 (c - n)] w fun e w' => ∃ g, e = .returned (.pointer (some ⟨g, 0, none⟩)) ∧ w.heap.size ≤ g ∧ Cur w' g L 0 0 ∧ Ext w w') := by
    have h := newCursor_calls (A.map (·.add n)) (c - n) L w (HR.out w (Ext.refl w)) (by rw [HL1.out]; omega)
    rw [HL1.out] at h
    exact h
  have hnc : n + 4 ≤ c := by omega
  have hnc' : (n : Int) ≤ (c : Int) := by omega
  have hn0 : (0 : Int) ≤ (n : Int) := by omega
  clear hn hcap h4
  go_enter Try.func30, Try.ntmps30
  go_wp2_with fail
  refine hnewC.out.mono ?_
  rintro e w1 ⟨g, rfl, hg, hc1, e1⟩
  have HC1 := Lib.hid hc1
  have E1 := Lib.hid e1
  clear hc1 e1
  have HNum : Hid (∀ W, Cur W g L 0 0 → Calls Try.prog 37 #[.pointer (some ⟨g, 0, none⟩), .int .i64 4] W (RetCV W g L (.int .u64 (leN L)) 4 0)) := by
    intro W hW
    have h := number4 g L 0 0 W hW (by rw [HL1.out]; omega)
    have ht := takeC_full L
    rw [HL1.out] at ht
    rw [ht] at h
    exact h
  have HSum : Hid (∀ W, Ext w W → Calls Try.prog 22 #[.slice A n c] W fun e w' => e = .returned (.int .u32 (crcSum T)) ∧ W = w') := by
    intro W hW
    have h := sum_calls A c T W (HR2.out W hW) (by rw [HL2.out]; omega)
    rw [HL2.out] at h
    exact h
  by_cases heq : leN L = crcSum T
  · have hne : ((leN L : Int) != (crcSum T : Int)) = false := by rw [bne_eq_false_iff_eq]; omega
    have HO2 : Hid (openR bs = (T, true)) := by show _ = _; rw [HO.out, if_pos heq]
    clear heq
    generalize leN L = u at *
    generalize crcSum T = v at *
    have hwv : IntKind.u64.wrap (v : Int) = (v : Int) := by rw [IntKind.wrap_u64]; omega
    go_wp2_with fail
    go_region_with (first | (go_at_call 37; refine (HNum.out _ ?_).mono ?_; exact HC1.out.ext ((Ext.refl _).drew); rintro e w2 ⟨rfl, g2, hc2⟩; have E2 := Lib.hid (ext_grown' (E1.out.drew) g2 hg); clear g2 hc2) | (go_at_call 22; refine (HSum.out _ ?_).mono ?_; exact E2.out; rintro e w3 ⟨rfl, rfl⟩))
    go_wp2_with (at_builtin; refine cpyB _ rfl (.const (.slice none 0 0)) (.tmp 25) rfl rfl A c T (by rw [HL2.out]; rfl) ?_ (HR2.out _ E2.out) ?c2; intro A3 c3 w3 h3 e3; have H3 := Lib.hid (h3.lower E2.out.size); have E3 := Lib.hid (E2.out.trans e3); clear h3 e3)
    case c2 => rw [HL2.out]; omega
    go_ret2
    rw [HO2.out]
    exact ⟨A3, c3, rfl, H3.out, E3.out⟩
  · have hne : ((leN L : Int) != (crcSum T : Int)) = true := by rw [bne_iff_ne]; omega
    have HO2 : Hid (openR bs = ([], false)) := by show _ = _; rw [HO.out, if_neg heq]
    clear heq
    generalize leN L = u at *
    generalize crcSum T = v at *
    have hwv : IntKind.u64.wrap (v : Int) = (v : Int) := by rw [IntKind.wrap_u64]; omega
    go_wp2_with fail
    go_region_with (first | (go_at_call 37; refine (HNum.out _ ?_).mono ?_; exact HC1.out.ext ((Ext.refl _).drew); rintro e w2 ⟨rfl, g2, hc2⟩; have E2 := Lib.hid (ext_grown' (E1.out.drew) g2 hg); clear g2 hc2) | (go_at_call 22; refine (HSum.out _ ?_).mono ?_; exact E2.out; rintro e w3 ⟨rfl, rfl⟩))
    go_wp2_with fail
    go_ret2
    rw [HO2.out]
    exact ⟨none, 0, rfl, OwnB.nil _ _, E2.out⟩

theorem seal_is (b : List UInt8) : isSeal (sealB b) := by
  refine ⟨by rw [sealB_length]; omega, ?_⟩
  rw [sealB_length, Nat.add_sub_cancel]
  unfold sealB
  rw [List.drop_left, List.take_left, leN_leB, Nat.mod_eq_of_lt (crcSum_lt b)]
theorem openR_seal (b : List UInt8) : openR (sealB b) = (b, true) := by
  rw [openR, if_pos (seal_is b), sealB_length, Nat.add_sub_cancel]
  unfold sealB
  rw [List.take_left]
theorem seal_iff (b : List UInt8) : isSeal b ↔ 4 ≤ b.length ∧ sealB (b.take (b.length - 4)) = b := by
  unfold isSeal
  refine and_congr_right fun h4 => ?_
  have hb : b.take (b.length - 4) ++ b.drop (b.length - 4) = b := List.take_append_drop _ _
  have hl : (b.drop (b.length - 4)).length = 4 := by simp; omega
  constructor
  · intro h
    rw [sealB, ← h]
    have := leB_leN (b.drop (b.length - 4))
    rw [hl] at this
    rw [this, hb]
  · intro h
    rw [sealB] at h
    have h2 := h.trans hb.symm
    have h3 := List.append_cancel_left h2
    rw [← h3, leN_leB, Nat.mod_eq_of_lt (crcSum_lt _)]
end Go.Proofs.Ytjbejaieihchmaa
