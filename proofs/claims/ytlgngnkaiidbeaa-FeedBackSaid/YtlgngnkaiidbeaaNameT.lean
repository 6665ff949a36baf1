/- Contracts of name.Target and ref07.Target. -/
import Derived.Test.YtlgngnkaiidbeaaName2
set_option maxRecDepth 100000
set_option linter.unusedVariables false
set_option linter.unusedSimpArgs false
namespace Go.Proofs.Ytlgngnkaiidbeaa
open Go.RowKit

def tgtB (r : Nat) : Bool := smallB r || decide (r = 46) || decide (r = 58)
def targetB (l : List UInt8) : Bool := decide (1 ≤ l.length) && decide (l.length ≤ 24) && l.all (fun c => tgtB c.toNat) && (l.take 1).all (fun c => smallB c.toNat)
theorem tgtB_iff (r : Nat) : tgtB r = true ↔ (97 ≤ r ∧ r ≤ 122) ∨ (48 ≤ r ∧ r ≤ 57) ∨ r = 45 ∨ r = 46 ∨ r = 58 := by simp [tgtB, smallB_iff, or_assoc]

theorem tgt_calls (r : Nat) (w : World) : Calls Try.prog 193 #[.int .i32 r] w fun e w' => e = .returned (.bool (tgtB r)) ∧ w = w' := by
  cases e1 : smallB r
  · by_cases h1 : r = 46
    · subst h1
      go_enter Try.func193, Try.ntmps193
      go_wp2_with fail
      refine (small_calls 46 _).mono ?_
      rintro e w' ⟨rfl, rfl⟩
      rw [e1]
      go_wp2_with fail
      go_ret
      exact ⟨rfl, rfl⟩
    · have e2 : ((r : Int) == 46) = false := beq_eq_false_iff_ne.2 (by omega)
      go_enter Try.func193, Try.ntmps193
      go_wp2_with fail
      refine (small_calls r _).mono ?_
      rintro e w' ⟨rfl, rfl⟩
      rw [e1]
      go_wp2_with fail
      go_ret
      refine ⟨ret_boolN ?_, rfl⟩
      rw [Bool.eq_iff_iff, tgtB_iff]
      rw [Bool.eq_false_iff, ne_eq, smallB_iff] at e1
      simp; omega
  · go_enter Try.func193, Try.ntmps193
    go_wp2_with fail
    refine (small_calls r _).mono ?_
    rintro e w' ⟨rfl, rfl⟩
    rw [e1]
    go_wp2_with fail
    go_ret
    refine ⟨ret_boolN ?_, rfl⟩
    rw [tgtB, e1]; rfl

theorem decode_tgt (s : ByteArray) (pos : Nat) (h : pos < s.size) (hs : tgtB (Utf8.decode s pos).1 = true) :
    Utf8.decode s pos = (s.data.toList[pos].toNat, 1) ∧ tgtB s.data.toList[pos].toNat = true := by
  have he : s.data.toList[pos] = s[pos] := by simp; rfl
  by_cases ha : (s[pos]'h).toNat < 128
  · have := decode_ascii s pos h ha
    rw [he]
    exact ⟨this, by rw [this] at hs; exact hs⟩
  · have := (decode_high s pos h (by omega)).1
    rw [tgtB_iff] at hs
    omega
theorem decode_nottgt (s : ByteArray) (pos : Nat) (h : pos < s.size) (hs : tgtB (Utf8.decode s pos).1 = false) :
    tgtB s.data.toList[pos].toNat = false := by
  have he : s.data.toList[pos] = s[pos] := by simp; rfl
  rw [he]
  by_cases ha : (s[pos]'h).toNat < 128
  · have := decode_ascii s pos h ha
    rw [this] at hs; exact hs
  · rw [Bool.eq_false_iff, ne_eq, tgtB_iff]
    omega

set_option maxHeartbeats 1000000 in
theorem namedT_calls (s : ByteArray) (w : World) : Calls Try.prog 190 #[.string s, .int .i64 24, .func (.func 193) #[] #[], .func (.func 191) #[] #[]] w (RetV w (.bool (targetB s.data.toList))) := by
  have HZ := Lib.hid (show s.size = s.data.toList.length from rfl)
  by_cases h0 : s.size = 0
  · have e0 : ((s.size : Int) == 0) = true := by simp [h0]
    go_enter Try.func190, Try.ntmps190
    go_wp2_with fail
    go_ret
    refine ⟨ret_boolN ?_, Ext.refl _⟩
    simp only [targetB]
    rw [← HZ.out, h0]; rfl
  by_cases h1 : 24 < s.size
  · have e0 : ((s.size : Int) == 0) = false := beq_eq_false_iff_ne.mpr (by omega)
    have e1 : decide ((24:Int) < (s.size : Int)) = true := decide_eq_true (by omega)
    go_enter Try.func190, Try.ntmps190
    go_wp2_with fail
    go_ret
    refine ⟨ret_boolN ?_, Ext.refl _⟩
    simp only [targetB]
    rw [← HZ.out, decide_eq_false (show ¬ s.size ≤ 24 by omega)]; simp
  have e0 : ((s.size : Int) == 0) = false := beq_eq_false_iff_ne.mpr (by omega)
  have e1 : decide ((24:Int) < (s.size : Int)) = false := decide_eq_false (by omega)
  go_enter Try.func190, Try.ntmps190
  go_wp2_with fail
  go_loopw [] (fun wr => ∃ pos : Nat, wr = w.iter s pos ∧ pos ≤ s.size ∧ (s.data.toList.take pos).all (fun c => tgtB c.toNat) = true ∧ ((s.data.toList.take (min pos 1)).all (fun c => smallB c.toNat) = true)) (fun wr => s.size - wr.iterPos w.heap.size)
  case atStart => exact ⟨0, rfl, by omega, by simp, by simp⟩
  case round =>
    obtain ⟨pos, rfl, hp, ha, hl⟩ := hrel
    have Ha := Lib.hid ha
    have Hl := Lib.hid hl
    clear ha hl
    by_cases hlt : pos < s.size
    · have hnx : ∀ ty, (Instr.next (.pointer (some ⟨w.heap.size, 0, none⟩)) true ty).run Try.prog (w.iter s pos) = _ := fun ty => run_next_any w s pos ty hlt
      cases hs : tgtB (Utf8.decode s pos).1
      · go_wp2_with fail
        refine (tgt_calls _ _).mono ?_
        rintro e w' ⟨rfl, rfl⟩
        rw [hs]
        go_wp2_with fail
        go_ret
        refine ⟨ret_boolN ?_, iter_ext _ _ _⟩
        have := all_not (p := fun c => tgtB c.toNat) (l := s.data.toList) hlt (decode_nottgt s pos hlt hs)
        simp only [targetB, this]; simp
      · obtain ⟨hd, hs2⟩ := decode_tgt s pos hlt hs
        rw [hd] at hnx
        have HC := Lib.hid (show ∃ c, c = s.data.toList[pos].toNat from ⟨_, rfl⟩)
        obtain ⟨c, hc⟩ := HC.out
        rw [← hc] at hnx hs2
        have Hs2 := Lib.hid hs2
        have Hc := Lib.hid hc
        clear hd hs2 hc HC
        by_cases hp0 : pos = 0
        · subst hp0
          cases hlw : smallB c
          · go_wp2_with fail
            refine (tgt_calls _ _).mono ?_
            rintro e w' ⟨rfl, rfl⟩
            rw [Hs2.out]
            go_wp2_with fail
            refine (small_calls _ _).mono ?_
            rintro e w' ⟨rfl, rfl⟩
            rw [hlw]
            go_wp2_with fail
            go_ret
            refine ⟨ret_boolN ?_, iter_ext _ _ _⟩
            have : (s.data.toList.take 1).all (fun c => smallB c.toNat) = false := all_not (k := 0) (by simp; omega) (by have := Hc.out; simp only [List.getElem_take]; rw [← this]; exact hlw)
            simp only [targetB, this]; simp
          · go_wp2_with fail
            refine (tgt_calls _ _).mono ?_
            rintro e w' ⟨rfl, rfl⟩
            rw [Hs2.out]
            go_wp2_with fail
            refine (small_calls _ _).mono ?_
            rintro e w' ⟨rfl, rfl⟩
            rw [hlw]
            go_wp2_with fail
            go_roundw
            case rel => exact ⟨1, rfl, by omega, all_take_succ (p := fun c => tgtB c.toNat) hlt (by rw [← Hc.out]; exact Hs2.out) Ha.out, all_take_succ (p := fun c => smallB c.toNat) hlt (by rw [← Hc.out]; exact hlw) (by simp)⟩
            case measure => simp; omega
        · have e2 : ((pos : Int) == 0) = false := by simp; omega
          go_wp2_with fail
          refine (tgt_calls _ _).mono ?_
          rintro e w' ⟨rfl, rfl⟩
          rw [Hs2.out]
          go_wp2_with fail
          go_roundw
          case rel => exact ⟨pos + 1, rfl, by omega, all_take_succ (p := fun c => tgtB c.toNat) hlt (by rw [← Hc.out]; exact Hs2.out) Ha.out, by have := Hl.out; rw [show min pos 1 = 1 by omega] at this; rw [show min (pos + 1) 1 = 1 by omega]; exact this⟩
          case measure => simp; omega
    · have hnx : ∀ ty, (Instr.next (.pointer (some ⟨w.heap.size, 0, none⟩)) true ty).run Try.prog (w.iter s pos) = _ := fun ty => run_next_end w s pos ty hlt
      go_wp2_with fail
      go_ret
      refine ⟨ret_boolN ?_, iter_ext _ _ _⟩
      obtain rfl : pos = s.size := by omega
      have h3 := Ha.out
      have h4 := Hl.out
      rw [List.take_of_length_le (by rw [← HZ.out]; omega)] at h3
      rw [show min s.size 1 = 1 by omega] at h4
      simp only [targetB, h3, h4]
      rw [← HZ.out, decide_eq_true (show 1 ≤ s.size by omega), decide_eq_true (show s.size ≤ 24 by omega)]; rfl

theorem target_calls (s : ByteArray) (w : World) : Calls Try.prog 184 #[.string s] w (RetV w (.bool (targetB s.data.toList))) := by
  go_enter Try.func184, Try.ntmps184
  go_wp2_with fail
  refine (namedT_calls s _).mono ?_
  rintro e w1 ⟨rfl, h1⟩
  go_wp2_with fail
  go_ret
  exact ⟨rfl, h1⟩

theorem in_tgt (c : UInt8) : inB [97, 98, 99, 100, 101, 102, 103, 104, 105, 106, 107, 108, 109, 110, 111, 112, 113, 114, 115, 116, 117, 118, 119, 120, 121, 122, 48, 49, 50, 51, 52, 53, 54, 55, 56, 57, 45, 46, 58] c = tgtB c.toNat := by
  have h : ∀ n : Fin 256, inB [97, 98, 99, 100, 101, 102, 103, 104, 105, 106, 107, 108, 109, 110, 111, 112, 113, 114, 115, 116, 117, 118, 119, 120, 121, 122, 48, 49, 50, 51, 52, 53, 54, 55, 56, 57, 45, 46, 58] (UInt8.ofNat n.1) = tgtB n.1 := by decide +kernel
  have h2 := h ⟨c.toNat, c.toNat_lt⟩
  simpa using h2

abbrev tgtS : ByteArray := ⟨#[97, 98, 99, 100, 101, 102, 103, 104, 105, 106, 107, 108, 109, 110, 111, 112, 113, 114, 115, 116, 117, 118, 119, 120, 121, 122, 48, 49, 50, 51, 52, 53, 54, 55, 56, 57, 45, 46, 58]⟩
theorem only_tgt (s : ByteArray) (w : World) (hs : s.size ≤ 1000000) :
    Calls Try.prog 114 #[.string s, .string tgtS] w fun e w' => e = .returned (.bool (s.data.toList.all fun c => tgtB c.toNat)) ∧ w = w' := by
  have h := only_calls s tgtS w hs (by decide)
  have he : (s.data.toList.all fun c => inB tgtS.data.toList c) = s.data.toList.all fun c => tgtB c.toNat := by
    congr 1; funext c; exact in_tgt c
  rw [he] at h
  exact h

set_option maxHeartbeats 400000 in
theorem rtarget_calls (s : ByteArray) (w : World) (hs : s.size ≤ 1000000) :
    Calls Try.prog 84 #[.string s] w fun e w' => e = .returned (.bool (targetB s.data.toList)) ∧ w = w' := by
  have HZ := Lib.hid (show s.size = s.data.toList.length from rfl)
  by_cases h0 : 1 ≤ s.size
  · by_cases h1 : s.size ≤ 24
    · have e0 : decide ((1:Int) ≤ (s.size : Int)) = true := decide_eq_true (by omega)
      have e1 : decide ((s.size : Int) ≤ 24) = true := decide_eq_true (by omega)
      have hh : s.data.toList.take 1 = [s[0]'h0] := by rw [← str_at s 0 h0]; rw [List.take_succ_eq_append_getElem (show 0 < s.data.toList.length from h0)]; rfl
      have HT : targetB s.data.toList = (s.data.toList.all (fun c => tgtB c.toNat) && smallB (s[0]'h0).toNat) := by
        simp only [targetB, hh]
        rw [← HZ.out, decide_eq_true h0, decide_eq_true h1]; simp
      have HT := Lib.hid HT
      have HF : Hid (s.data.toList.all (fun c => tgtB c.toNat) = true → tgtB (s[0]'h0).toNat = true) := by
        intro h
        have := List.all_eq_true.1 h (s.data.toList[0]'(show 0 < s.data.toList.length from h0)) (List.getElem_mem _)
        rwa [str_at s 0 h0] at this
      clear hh
      cases ha : s.data.toList.all (fun c => tgtB c.toNat)
      · go_enter Try.func84, Try.ntmps84
        go_wp2_with fail
        refine (only_tgt s _ hs).mono ?_
        rintro e w' ⟨rfl, rfl⟩
        rw [ha]
        go_wp2_with fail
        go_ret
        refine ⟨ret_boolN ?_, rfl⟩
        rw [HT.out, ha]; rfl
      · have hf := HF.out ha
        rw [tgtB_iff] at hf
        by_cases hg : (s[0]'h0).toNat = 46
        · have e2 : (((s[0]'h0).toNat : Int) != 46) = false := by rw [hg]; rfl
          go_enter Try.func84, Try.ntmps84
          go_wp2_with fail
          refine (only_tgt s _ hs).mono ?_
          rintro e w' ⟨rfl, rfl⟩
          rw [ha]
          go_wp2_with fail
          go_ret
          refine ⟨ret_boolN ?_, rfl⟩
          rw [HT.out, ha, hg]; rfl
        · have e2 : (((s[0]'h0).toNat : Int) != 46) = true := bne_iff_ne.2 (by omega)
          go_enter Try.func84, Try.ntmps84
          go_wp2_with fail
          refine (only_tgt s _ hs).mono ?_
          rintro e w' ⟨rfl, rfl⟩
          rw [ha]
          go_wp2_with fail
          go_ret
          refine ⟨ret_boolN ?_, rfl⟩
          rw [HT.out, ha, Bool.true_and, Bool.eq_iff_iff, smallB_iff]
          simp; omega
    · have e0 : decide ((1:Int) ≤ (s.size : Int)) = true := decide_eq_true (by omega)
      have e1 : decide ((s.size : Int) ≤ 24) = false := decide_eq_false (by omega)
      go_enter Try.func84, Try.ntmps84
      go_wp2_with fail
      go_ret
      refine ⟨ret_boolN ?_, rfl⟩
      simp only [targetB]
      rw [← HZ.out, decide_eq_false h1]; simp
  · have e0 : decide ((1:Int) ≤ (s.size : Int)) = false := decide_eq_false (by omega)
    go_enter Try.func84, Try.ntmps84
    go_wp2_with fail
    go_ret
    refine ⟨ret_boolN ?_, rfl⟩
    simp only [targetB]
    rw [← HZ.out, decide_eq_false h0]; rfl
end Go.Proofs.Ytlgngnkaiidbeaa
