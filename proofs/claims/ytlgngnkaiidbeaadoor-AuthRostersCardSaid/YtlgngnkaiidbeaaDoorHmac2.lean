/- hmac.Same, hmac.Check, awake of layer 4, the law HmacSame. -/
import Derived.Test.YtlgngnkaiidbeaaDoorHmac
import Derived.Lib.SlBytesConst
set_option maxRecDepth 100000
set_option linter.unusedVariables false
set_option linter.unusedSimpArgs false
namespace Go.Proofs.YtlgngnkaiidbeaaDoor
open Go.RowKit

theorem xor_zero (a b : Nat) : a ^^^ b = 0 ↔ a = b := by
  constructor
  · intro h
    have : (a ^^^ b) ^^^ b = 0 ^^^ b := by rw [h]
    rwa [Nat.xor_assoc, Nat.xor_self, Nat.xor_zero, Nat.zero_xor] at this
  · rintro rfl; exact Nat.xor_self a
theorem same_ex (v a b : Nat) (hv : v < 256) (ha : a < 256) (hb : b < 256) : ∃ y z : Nat, bits BinOp.xor IntKind.u8 (a : Int) (b : Int) = (y : Int) ∧ bits BinOp.or IntKind.u8 (v : Int) (y : Int) = (z : Int) ∧ z < 256 ∧ (z = 0 ↔ v = 0 ∧ a = b) := by
  have hx : a ^^^ b < 256 := Nat.xor_lt_two_pow (n := 8) ha hb
  refine ⟨_, _, u8_xor_nat a b ha hb, u8_or_nat v _ hv hx, Nat.or_lt_two_pow (n := 8) hv hx, ?_⟩
  rw [Nat.or_eq_zero_iff, xor_zero]

set_option maxHeartbeats 1000000 in
theorem hsame_calls (A B : Option Addr) (c d : Nat) (xs ys : List UInt8) (w : World) (ha : RdB w A xs) (hb : RdB w B ys) (hx : xs.length ≤ 1000000) :
    Calls Tryd.prog 42 #[.slice A xs.length c, .slice B ys.length d] w (RetV w (.bool (decide (xs = ys)))) := by
  have Ha := Lib.hid ha
  have Hb := Lib.hid hb
  clear ha hb
  by_cases hl : xs.length = ys.length
  · have HLn := Lib.hid hl
    have h0 : ((xs.length : Int) != (ys.length : Int)) = false := by simp [hl]
    clear hl
    go_enter Tryd.func42, Tryd.ntmps42
    go_wp2
    go_loopw [5, 6, 14] (fun o _ i wr => ∃ k v : Nat, k ≤ xs.length ∧ i = .int .i64 k ∧ o = .int .u8 v ∧ v < 256 ∧ (v = 0 ↔ xs.take k = ys.take k) ∧ Ext w wr) (fun _ _ i _ => xs.length - (intOf i).toNat)
    case atStart => exact ⟨0, 0, by omega, rfl, rfl, by omega, by simp, Ext.refl w⟩
    case round =>
      rename_i wr
      obtain ⟨k, v, hk, rfl, rfl, hv, hiff, hext⟩ := hrel
      have HI := Lib.hid hiff
      have HE := Lib.hid hext
      clear hiff
      by_cases hlt : k < xs.length
      · have hlt' : k < ys.length := by have := HLn.out; omega
        obtain ⟨ad, rfl, hca⟩ := (Ha.out.ext hext).at_ hlt
        obtain ⟨bd, rfl, hcb⟩ := (Hb.out.ext hext).at_ hlt'
        have l1 := (xs[k]).toNat_lt
        have l2 := (ys[k]).toNat_lt
        have HN : Hid (∀ z : Nat, (z = 0 ↔ v = 0 ∧ (xs[k]).toNat = (ys[k]).toNat) → (z = 0 ↔ xs.take (k + 1) = ys.take (k + 1))) := by
          intro z hz
          rw [hz, List.take_succ_eq_append_getElem hlt, List.take_succ_eq_append_getElem hlt', HI.out]
          constructor
          · rintro ⟨h1, h2⟩
            rw [h1, UInt8.toNat.inj h2]
          · intro h
            have hlen : (xs.take k).length = (ys.take k).length := by simp; omega
            obtain ⟨h1, h2⟩ := List.append_inj h hlen
            refine ⟨h1, ?_⟩
            injection h2 with h2
            rw [h2]
        obtain ⟨y, z, e1, e2, hz, hzi⟩ := same_ex v (xs[k]).toNat (ys[k]).toNat hv l1 l2
        have HZ := Lib.hid (HN.out z hzi)
        clear HN hzi hext
        generalize (xs[k]).toNat = xa at *
        generalize (ys[k]).toNat = ya at *
        go_wp2
        go_quiet (fail)
        go_wp2
        go_roundw
        case rel => exact ⟨k + 1, z, by omega, by go_num, rfl, hz, HZ.out, HE.out.drewN _⟩
        case measure => simp [intOf]; omega
      · have HF : Hid (((v : Int) == 0) = decide (xs = ys)) := by
          show _ = _
          have hi := HI.out
          rw [List.take_of_length_le (by omega), List.take_of_length_le (by have := HLn.out; omega)] at hi
          rw [Bool.eq_iff_iff]
          simp only [beq_iff_eq, decide_eq_true_eq]
          constructor
          · intro h; exact hi.1 (by omega)
          · intro h; have := hi.2 h; omega
        clear hext
        go_wp2
        go_ret
        refine ⟨?_, HE.out⟩
        rw [← HF.out]
        rfl
  · have HLn := Lib.hid hl
    have h0 : ((xs.length : Int) != (ys.length : Int)) = true := by simp; omega
    clear hl
    go_enter Tryd.func42, Tryd.ntmps42
    go_wp2
    go_ret
    refine ⟨?_, Ext.refl _⟩
    have : xs ≠ ys := fun h => HLn.out (by simp [h])
    simp [this]

set_option maxHeartbeats 1000000 in
theorem hcheck_calls (A B C : Option Addr) (c d e : Nat) (key b tag : List UInt8) (w : World) (hk : RdB w A key) (hb : RdB w B b) (ht : RdB w C tag) (hkl : key.length ≤ 100000) (hbl : b.length ≤ 100000) (hkc : key.length ≤ c) (hc : c ≤ 9223372036854775807) (hL : Laid w) :
    Calls Tryd.prog 23 #[.slice A key.length c, .slice B b.length d, .slice C tag.length e] w (RetV w (.bool (decide (tagB key b = tag)))) := by
  have Hk := Lib.hid hk
  have Hb := Lib.hid hb
  have Ht := Lib.hid ht
  have HL := Lib.hid hL
  have HSL := Lib.hid (tagB_length key b)
  clear hk hb ht hL
  go_enter Tryd.func23, Tryd.ntmps23
  go_wp2_with (first | (go_at_call 21; refine (tag_calls A B c d key b _ Hk.out Hb.out hkl hbl hkc hc HL.out).mono ?_; rintro e w1 ⟨rfl, e1⟩; have E1 := Lib.hid e1; clear e1) | ((with_reducible show wpList _ _ _ ({ dst := some 7, op := Op.alloc 48, type := _, pos := _, after := _, guard := _ } :: _) _ _); refine alA _ rfl 48 rfl _ _ zero32 ?_; intro g w2 hg hs1 h1 e1; have HG := Lib.hid hg; have H2 := Lib.hid h1; have E2 := Lib.hid (E1.out.trans e1); clear h1 e1 hs1 hg) | ((with_reducible show wpList _ _ _ ({ dst := none, op := Op.store 48 (.tmp 7) _, type := _, pos := _, after := _, guard := _ } :: _) _ _); refine stA _ rfl 48 48 _ _ rfl g _ (bvs (tagB key b)) rfl rfl H2.out (by rw [bvs_size, HSL.out]; exact size32) (by rw [bvs_size, bvs_size, HSL.out]; rfl) (bvs_one _) ?_; intro w3 hs3 h3 g3; have H3 := Lib.hid h3; have E3 := Lib.hid (E2.out.grown g3 (fun k hk => by injection hk with hk; have := HG.out; have := E1.out.size; omega)); have hall := (fun w' : World => slice_all (P := Tryd.prog) w' 48 5 32 g Tryd.underlying48 (by kernel_rfl)); clear hs3 h3 g3))
  have HS := Lib.hid (hsame_calls (some ⟨g, 0, none⟩) C 32 e (tagB key b) tag w3 H3.out.rdB (Ht.out.ext E3.out) (by rw [HSL.out]; omega))
  rw [HSL.out] at HS
  clear hall
  refine HS.out.mono ?_
  rintro e w4 ⟨rfl, e4⟩
  have E4 := Lib.hid (E3.out.trans e4)
  clear e4 HS
  go_wp2_with fail
  go_ret
  exact ⟨rfl, E4.out⟩

def fox : List UInt8 := [84, 104, 101, 32, 113, 117, 105, 99, 107, 32, 98, 114, 111, 119, 110, 32, 102, 111, 120, 32, 106, 117, 109, 112, 115, 32, 111, 118, 101, 114, 32, 116, 104, 101, 32, 108, 97, 122, 121, 32, 100, 111, 103]
def ftag (k b : List UInt8) : List UInt8 := Sha.fsum (xorB 0x5c (key64 k) ++ Sha.fsum (xorB 0x36 (key64 k) ++ b))
theorem ftag_eq (k b : List UInt8) : tagB k b = ftag k b := by unfold tagB ftag; rw [Sha.fsum_eq, Sha.fsum_eq]
set_option maxRecDepth 100000 in
theorem tag_example : (tagB [107, 101, 121] fox)[0]? = some 0xf7 ∧ (tagB [107, 101, 121] fox)[1]? = some 0xbc ∧ (tagB [107, 101, 121] fox)[31]? = some 0xd8 := by
  rw [ftag_eq]
  have : ftag [107, 101, 121] fox = [0xf7, 0xbc, 0x83, 0xf4, 0x30, 0x53, 0x84, 0x24, 0xb1, 0x32, 0x98, 0xe6, 0xaa, 0x6f, 0xb1, 0x43, 0xef, 0x4d, 0x59, 0xa1, 0x49, 0x46, 0x17, 0x59, 0x97, 0x47, 0x9d, 0xbc, 0x2d, 0x1a, 0x3c, 0xd8] := by decide +kernel
  rw [this]
  exact ⟨rfl, rfl, rfl⟩
theorem arr_cellB' {w : World} {g : Nat} {t : TypeId} {l : List UInt8} (H : Arr w g t (bvs l)) (i : Nat) (v : UInt8) (h : l[i]? = some v) : w.cell? ⟨g, i, none⟩ = some (.int .u8 (v.toNat : Int)) :=
  H.cell_some (by simp [bvs, h, bv])

end Go.Proofs.YtlgngnkaiidbeaaDoor
