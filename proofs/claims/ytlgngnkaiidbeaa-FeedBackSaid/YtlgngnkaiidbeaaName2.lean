/- Contracts of ref07 (names, by definition). -/
import Derived.Test.YtlgngnkaiidbeaaName
set_option maxRecDepth 100000
set_option linter.unusedVariables false
set_option linter.unusedSimpArgs false
namespace Go.Proofs.Ytlgngnkaiidbeaa
open Go.RowKit

def inB (l : List UInt8) (c : UInt8) : Bool := l.any (fun x => x == c)

theorem str_at (s : ByteArray) (k : Nat) (h : k < s.size) : s.data.toList[k]'(show k < s.data.toList.length from h) = s[k]'h := by simp; rfl

set_option maxHeartbeats 400000 in
theorem in_calls (s : ByteArray) (c : UInt8) (w : World) (hs : s.size ≤ 1000000) :
    Calls Try.prog 137 #[.string s, .int .u8 c.toNat] w fun e w' => e = .returned (.bool (inB s.data.toList c)) ∧ w = w' := by
  go_enter Try.func137, Try.ntmps137
  go_wp2_with fail
  go_loopw [5] (fun i wr => ∃ k : Nat, k ≤ s.size ∧ i = .int .i64 k ∧ wr = w ∧ (s.data.toList.take k).any (fun x => x == c) = false) (fun i _ => s.size - (intOf i).toNat)
  case atStart => exact ⟨0, by omega, rfl, rfl, by simp⟩
  case round =>
    obtain ⟨k, hk, rfl, rfl, ht⟩ := hrel
    have Ht := Lib.hid ht
    clear ht
    by_cases hlt : k < s.size
    · by_cases hc : s[k]'hlt = c
      · have e1 : (((s[k]'hlt).toNat : Int) == (c.toNat : Int)) = true := by rw [hc]; simp
        go_wp2_with fail
        go_ret
        refine ⟨ret_boolN ?_, rfl⟩
        symm
        rw [inB, List.any_eq_true]
        exact ⟨s.data.toList[k], List.getElem_mem _, by rw [str_at s k hlt, hc]; simp⟩
      · have e1 : (((s[k]'hlt).toNat : Int) == (c.toNat : Int)) = false := by
          rw [beq_eq_false_iff_ne]; intro h; exact hc (UInt8.toNat.inj (by omega))
        go_wp2_with fail
        go_roundw
        case rel =>
          refine ⟨k+1, by omega, by go_num, trivial, ?_⟩
          rw [List.take_succ_eq_append_getElem hlt, List.any_append, Ht.out, str_at s k hlt]
          simp [hc]
        case measure => simp [intOf]; omega
    · go_wp2_with fail
      go_ret
      refine ⟨ret_boolN ?_, rfl⟩
      have h := Ht.out
      rw [List.take_of_length_le (show s.data.toList.length ≤ k from Nat.le_of_not_lt hlt)] at h
      rw [inB, h]

set_option maxHeartbeats 400000 in
theorem only_calls (s l : ByteArray) (w : World) (hs : s.size ≤ 1000000) (hl : l.size ≤ 1000000) :
    Calls Try.prog 114 #[.string s, .string l] w fun e w' => e = .returned (.bool (s.data.toList.all fun c => inB l.data.toList c)) ∧ w = w' := by
  go_enter Try.func114, Try.ntmps114
  go_wp2_with fail
  go_loopw [5] (fun i wr => ∃ k : Nat, k ≤ s.size ∧ i = .int .i64 k ∧ wr = w ∧ (s.data.toList.take k).all (fun c => inB l.data.toList c) = true) (fun i _ => s.size - (intOf i).toNat)
  case atStart => exact ⟨0, by omega, rfl, rfl, by simp⟩
  case round =>
    obtain ⟨k, hk, rfl, rfl, ht⟩ := hrel
    have Ht := Lib.hid ht
    clear ht
    by_cases hlt : k < s.size
    · cases hc : inB l.data.toList (s[k]'hlt)
      · go_wp2_with fail
        refine (in_calls l _ _ hl).mono ?_
        rintro e w' ⟨rfl, rfl⟩
        rw [hc]
        go_wp2_with fail
        go_ret
        refine ⟨ret_boolN ?_, rfl⟩
        symm
        exact all_not (l := s.data.toList) (k := k) hlt (by rw [str_at s k hlt]; exact hc)
      · go_wp2_with fail
        refine (in_calls l _ _ hl).mono ?_
        rintro e w' ⟨rfl, rfl⟩
        rw [hc]
        go_wp2_with fail
        go_roundw
        case rel =>
          exact ⟨k+1, by omega, by go_num, trivial, all_take_succ (p := fun c => inB l.data.toList c) hlt (by rw [str_at s k hlt]; exact hc) Ht.out⟩
        case measure => simp [intOf]; omega
    · go_wp2_with fail
      go_ret
      refine ⟨ret_boolN ?_, rfl⟩
      have h := Ht.out
      rw [List.take_of_length_le (show s.data.toList.length ≤ k from Nat.le_of_not_lt hlt)] at h
      rw [h]

theorem in_small (c : UInt8) : inB [97, 98, 99, 100, 101, 102, 103, 104, 105, 106, 107, 108, 109, 110, 111, 112, 113, 114, 115, 116, 117, 118, 119, 120, 121, 122, 48, 49, 50, 51, 52, 53, 54, 55, 56, 57, 45] c = smallB c.toNat := by
  have h : ∀ n : Fin 256, inB [97, 98, 99, 100, 101, 102, 103, 104, 105, 106, 107, 108, 109, 110, 111, 112, 113, 114, 115, 116, 117, 118, 119, 120, 121, 122, 48, 49, 50, 51, 52, 53, 54, 55, 56, 57, 45] (UInt8.ofNat n.val) = smallB n.val := by decide +kernel
  have h2 := h ⟨c.toNat, c.toNat_lt⟩
  simpa using h2

set_option maxHeartbeats 400000 in
theorem rtenant_calls (s : ByteArray) (w : World) (hs : s.size ≤ 1000000) :
    Calls Try.prog 83 #[.string s] w fun e w' => e = .returned (.bool (tenantB s.data.toList)) ∧ w = w' := by
  have HZ := Lib.hid (show s.size = s.data.toList.length from rfl)
  have HA : (s.data.toList.all fun c => inB [97, 98, 99, 100, 101, 102, 103, 104, 105, 106, 107, 108, 109, 110, 111, 112, 113, 114, 115, 116, 117, 118, 119, 120, 121, 122, 48, 49, 50, 51, 52, 53, 54, 55, 56, 57, 45] c) = s.data.toList.all (fun c => smallB c.toNat) := by
    congr 1; funext c; exact in_small c
  have HA := Lib.hid HA
  by_cases h0 : 1 ≤ s.size
  · by_cases h1 : s.size ≤ 16
    · have e0 : decide ((1:Int) ≤ (s.size : Int)) = true := decide_eq_true (by omega)
      have e1 : decide ((s.size : Int) ≤ 16) = true := decide_eq_true (by omega)
      have hh : s.data.toList.take 1 = [s[0]'h0] := by rw [← str_at s 0 h0]; rw [List.take_succ_eq_append_getElem (show 0 < s.data.toList.length from h0)]; rfl
      have HT : tenantB s.data.toList = (s.data.toList.all (fun c => smallB c.toNat) && lowB (s[0]'h0).toNat) := by
        simp only [tenantB, hh]
        rw [← HZ.out, decide_eq_true h0, decide_eq_true h1]; simp
      have HT := Lib.hid HT
      clear hh
      cases ha : s.data.toList.all (fun c => smallB c.toNat)
      · go_enter Try.func83, Try.ntmps83
        go_wp2_with fail
        refine (only_calls s ⟨#[97, 98, 99, 100, 101, 102, 103, 104, 105, 106, 107, 108, 109, 110, 111, 112, 113, 114, 115, 116, 117, 118, 119, 120, 121, 122, 48, 49, 50, 51, 52, 53, 54, 55, 56, 57, 45]⟩ _ hs (by decide)).mono ?_
        rintro e w' ⟨rfl, rfl⟩
        rw [show (⟨#[97, 98, 99, 100, 101, 102, 103, 104, 105, 106, 107, 108, 109, 110, 111, 112, 113, 114, 115, 116, 117, 118, 119, 120, 121, 122, 48, 49, 50, 51, 52, 53, 54, 55, 56, 57, 45]⟩ : ByteArray).data.toList = [97, 98, 99, 100, 101, 102, 103, 104, 105, 106, 107, 108, 109, 110, 111, 112, 113, 114, 115, 116, 117, 118, 119, 120, 121, 122, 48, 49, 50, 51, 52, 53, 54, 55, 56, 57, 45] from rfl, HA.out, ha]
        go_wp2_with fail
        go_ret
        refine ⟨ret_boolN ?_, rfl⟩
        rw [HT.out, ha]; rfl
      · by_cases hg : 97 ≤ (s[0]'h0).toNat
        · go_enter Try.func83, Try.ntmps83
          go_wp2_with fail
          refine (only_calls s ⟨#[97, 98, 99, 100, 101, 102, 103, 104, 105, 106, 107, 108, 109, 110, 111, 112, 113, 114, 115, 116, 117, 118, 119, 120, 121, 122, 48, 49, 50, 51, 52, 53, 54, 55, 56, 57, 45]⟩ _ hs (by decide)).mono ?_
          rintro e w' ⟨rfl, rfl⟩
          rw [show (⟨#[97, 98, 99, 100, 101, 102, 103, 104, 105, 106, 107, 108, 109, 110, 111, 112, 113, 114, 115, 116, 117, 118, 119, 120, 121, 122, 48, 49, 50, 51, 52, 53, 54, 55, 56, 57, 45]⟩ : ByteArray).data.toList = [97, 98, 99, 100, 101, 102, 103, 104, 105, 106, 107, 108, 109, 110, 111, 112, 113, 114, 115, 116, 117, 118, 119, 120, 121, 122, 48, 49, 50, 51, 52, 53, 54, 55, 56, 57, 45] from rfl, HA.out, ha]
          go_wp2_with fail
          go_ret
          refine ⟨ret_boolN ?_, rfl⟩
          rw [HT.out, ha, Bool.true_and, Bool.eq_iff_iff, lowB_iff]
          simp; omega
        · go_enter Try.func83, Try.ntmps83
          go_wp2_with fail
          refine (only_calls s ⟨#[97, 98, 99, 100, 101, 102, 103, 104, 105, 106, 107, 108, 109, 110, 111, 112, 113, 114, 115, 116, 117, 118, 119, 120, 121, 122, 48, 49, 50, 51, 52, 53, 54, 55, 56, 57, 45]⟩ _ hs (by decide)).mono ?_
          rintro e w' ⟨rfl, rfl⟩
          rw [show (⟨#[97, 98, 99, 100, 101, 102, 103, 104, 105, 106, 107, 108, 109, 110, 111, 112, 113, 114, 115, 116, 117, 118, 119, 120, 121, 122, 48, 49, 50, 51, 52, 53, 54, 55, 56, 57, 45]⟩ : ByteArray).data.toList = [97, 98, 99, 100, 101, 102, 103, 104, 105, 106, 107, 108, 109, 110, 111, 112, 113, 114, 115, 116, 117, 118, 119, 120, 121, 122, 48, 49, 50, 51, 52, 53, 54, 55, 56, 57, 45] from rfl, HA.out, ha]
          go_wp2_with fail
          go_ret
          refine ⟨ret_boolN ?_, rfl⟩
          try rw [HT.out, ha, Bool.true_and]
          symm
          rw [Bool.eq_false_iff, ne_eq, lowB_iff]
          omega
    · have e0 : decide ((1:Int) ≤ (s.size : Int)) = true := decide_eq_true (by omega)
      have e1 : decide ((s.size : Int) ≤ 16) = false := decide_eq_false (by omega)
      go_enter Try.func83, Try.ntmps83
      go_wp2_with fail
      go_ret
      refine ⟨ret_boolN ?_, rfl⟩
      simp only [tenantB]
      rw [← HZ.out, decide_eq_false h1]; simp
  · have e0 : decide ((1:Int) ≤ (s.size : Int)) = false := decide_eq_false (by omega)
    go_enter Try.func83, Try.ntmps83
    go_wp2_with fail
    go_ret
    refine ⟨ret_boolN ?_, rfl⟩
    simp only [tenantB]
    rw [← HZ.out, decide_eq_false h0]; rfl
end Go.Proofs.Ytlgngnkaiidbeaa
