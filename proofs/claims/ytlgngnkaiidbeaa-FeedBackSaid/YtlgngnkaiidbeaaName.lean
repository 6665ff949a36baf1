/- Contracts of package name (tenants' names) and of ref07. -/
import Derived.Test.YtlgngnkaiidbeaaMem
import Derived.Laws.RangeAny
set_option maxRecDepth 100000
set_option linter.unusedVariables false
set_option linter.unusedSimpArgs false
namespace Go.Proofs.Ytlgngnkaiidbeaa
open Go.RowKit

def digB (r : Nat) : Bool := decide (48 ≤ r) && decide (r ≤ 57)
def lowB (r : Nat) : Bool := decide (97 ≤ r) && decide (r ≤ 122)
def smallB (r : Nat) : Bool := lowB r || digB r || decide (r = 45)
def tenantB (l : List UInt8) : Bool := decide (1 ≤ l.length) && decide (l.length ≤ 16) && l.all (fun c => smallB c.toNat) && (l.take 1).all (fun c => lowB c.toNat)

theorem lowB_iff (r : Nat) : lowB r = true ↔ 97 ≤ r ∧ r ≤ 122 := by simp [lowB]
theorem digB_iff (r : Nat) : digB r = true ↔ 48 ≤ r ∧ r ≤ 57 := by simp [digB]
theorem smallB_iff (r : Nat) : smallB r = true ↔ (97 ≤ r ∧ r ≤ 122) ∨ (48 ≤ r ∧ r ≤ 57) ∨ r = 45 := by simp [smallB, lowB_iff, digB_iff, or_assoc]

theorem ret_boolN {a b : Bool} (h : a = b) : Ending.returned (.bool a) = .returned (.bool b) := by rw [h]

theorem digit_calls (r : Nat) (w : World) : Calls Try.prog 195 #[.int .i32 r] w fun e w' => e = .returned (.bool (digB r)) ∧ w = w' := by
  by_cases h1 : 48 ≤ r
  · go_enter Try.func195, Try.ntmps195
    go_wp2_with fail
    go_ret
    refine ⟨ret_boolN ?_, rfl⟩
    rw [Bool.eq_iff_iff, digB_iff]; simp; omega
  · go_enter Try.func195, Try.ntmps195
    go_wp2_with fail
    go_ret
    refine ⟨ret_boolN ?_, rfl⟩
    rw [Bool.eq_iff_iff, digB_iff]; simp; omega

theorem low_calls (r : Nat) (w : World) : Calls Try.prog 192 #[.int .i32 r] w fun e w' => e = .returned (.bool (lowB r)) ∧ w = w' := by
  by_cases h1 : 97 ≤ r
  · go_enter Try.func192, Try.ntmps192
    go_wp2_with fail
    go_ret
    refine ⟨ret_boolN ?_, rfl⟩
    rw [Bool.eq_iff_iff, lowB_iff]; simp; omega
  · go_enter Try.func192, Try.ntmps192
    go_wp2_with fail
    go_ret
    refine ⟨ret_boolN ?_, rfl⟩
    rw [Bool.eq_iff_iff, lowB_iff]; simp; omega

theorem small_calls (r : Nat) (w : World) : Calls Try.prog 191 #[.int .i32 r] w fun e w' => e = .returned (.bool (smallB r)) ∧ w = w' := by
  by_cases h1 : 97 ≤ r
  · by_cases h2 : r ≤ 122
    · go_enter Try.func191, Try.ntmps191
      go_wp2_with fail
      go_ret
      refine ⟨ret_boolN ?_, rfl⟩
      rw [Bool.eq_iff_iff, smallB_iff]; simp; omega
    · have e1 : digB r = false := by rw [Bool.eq_false_iff, ne_eq, digB_iff]; omega
      go_enter Try.func191, Try.ntmps191
      go_wp2_with fail
      refine (digit_calls r _).mono ?_
      rintro e w' ⟨rfl, rfl⟩
      rw [e1]
      go_wp2_with fail
      go_ret
      refine ⟨ret_boolN ?_, rfl⟩
      rw [Bool.eq_iff_iff, smallB_iff]; simp; omega
  · cases e1 : digB r
    · go_enter Try.func191, Try.ntmps191
      go_wp2_with fail
      refine (digit_calls r _).mono ?_
      rintro e w' ⟨rfl, rfl⟩
      rw [e1]
      go_wp2_with fail
      go_ret
      refine ⟨ret_boolN ?_, rfl⟩
      rw [Bool.eq_false_iff, ne_eq, digB_iff] at e1
      rw [Bool.eq_iff_iff, smallB_iff]; simp; omega
    · go_enter Try.func191, Try.ntmps191
      go_wp2_with fail
      refine (digit_calls r _).mono ?_
      rintro e w' ⟨rfl, rfl⟩
      rw [e1]
      go_wp2_with fail
      go_ret
      refine ⟨ret_boolN ?_, rfl⟩
      rw [digB_iff] at e1
      rw [Bool.eq_iff_iff, smallB_iff]; simp; omega

theorem decode_small (s : ByteArray) (pos : Nat) (h : pos < s.size) (hs : smallB (Utf8.decode s pos).1 = true) :
    Utf8.decode s pos = (s.data.toList[pos].toNat, 1) ∧ smallB s.data.toList[pos].toNat = true := by
  have he : s.data.toList[pos] = s[pos] := by simp; rfl
  by_cases ha : (s[pos]'h).toNat < 128
  · have := decode_ascii s pos h ha
    rw [he]
    exact ⟨this, by rw [this] at hs; exact hs⟩
  · have := (decode_high s pos h (by omega)).1
    rw [smallB_iff] at hs
    omega
theorem decode_notsmall (s : ByteArray) (pos : Nat) (h : pos < s.size) (hs : smallB (Utf8.decode s pos).1 = false) :
    smallB s.data.toList[pos].toNat = false := by
  have he : s.data.toList[pos] = s[pos] := by simp; rfl
  rw [he]
  by_cases ha : (s[pos]'h).toNat < 128
  · have := decode_ascii s pos h ha
    rw [this] at hs; exact hs
  · rw [Bool.eq_false_iff, ne_eq, smallB_iff]
    omega
theorem all_not {l : List UInt8} {p : UInt8 → Bool} {k : Nat} (hk : k < l.length) (h : p l[k] = false) : l.all p = false := by
  rw [List.all_eq_false]
  exact ⟨l[k], List.getElem_mem hk, by simp [h]⟩
theorem all_take_succ {l : List UInt8} {p : UInt8 → Bool} {k : Nat} (hk : k < l.length) (h : p l[k] = true) (h0 : (l.take k).all p = true) : (l.take (k + 1)).all p = true := by
  rw [List.take_add_one, List.all_append, h0, List.getElem?_eq_getElem hk]
  simp [h]

theorem iter_ext (w : World) (s : ByteArray) (p : Nat) : Ext w (w.iter s p) := Ext.alloc (Ext.refl w) _

set_option maxHeartbeats 1000000 in
theorem named_calls (s : ByteArray) (w : World) : Calls Try.prog 190 #[.string s, .int .i64 16, .func (.func 191) #[] #[], .func (.func 192) #[] #[]] w (RetV w (.bool (tenantB s.data.toList))) := by
  have HZ := Lib.hid (show s.size = s.data.toList.length from rfl)
  by_cases h0 : s.size = 0
  · have e0 : ((s.size : Int) == 0) = true := by simp [h0]
    go_enter Try.func190, Try.ntmps190
    go_wp2_with fail
    go_ret
    refine ⟨ret_boolN ?_, Ext.refl _⟩
    simp only [tenantB]
    rw [← HZ.out, h0]; rfl
  by_cases h1 : 16 < s.size
  · have e0 : ((s.size : Int) == 0) = false := beq_eq_false_iff_ne.mpr (by omega)
    have e1 : decide ((16:Int) < (s.size : Int)) = true := decide_eq_true (by omega)
    go_enter Try.func190, Try.ntmps190
    go_wp2_with fail
    go_ret
    refine ⟨ret_boolN ?_, Ext.refl _⟩
    simp only [tenantB]
    rw [← HZ.out, decide_eq_false (show ¬ s.size ≤ 16 by omega)]; simp
  have e0 : ((s.size : Int) == 0) = false := beq_eq_false_iff_ne.mpr (by omega)
  have e1 : decide ((16:Int) < (s.size : Int)) = false := decide_eq_false (by omega)
  go_enter Try.func190, Try.ntmps190
  go_wp2_with fail
  go_loopw [] (fun wr => ∃ pos : Nat, wr = w.iter s pos ∧ pos ≤ s.size ∧ (s.data.toList.take pos).all (fun c => smallB c.toNat) = true ∧ ((s.data.toList.take (min pos 1)).all (fun c => lowB c.toNat) = true)) (fun wr => s.size - wr.iterPos w.heap.size)
  case atStart => exact ⟨0, rfl, by omega, by simp, by simp⟩
  case round =>
    obtain ⟨pos, rfl, hp, ha, hl⟩ := hrel
    have Ha := Lib.hid ha
    have Hl := Lib.hid hl
    clear ha hl
    by_cases hlt : pos < s.size
    · have hnx : ∀ ty, (Instr.next (.pointer (some ⟨w.heap.size, 0, none⟩)) true ty).run Try.prog (w.iter s pos) = _ := fun ty => run_next_any w s pos ty hlt
      cases hs : smallB (Utf8.decode s pos).1
      · go_wp2_with fail
        refine (small_calls _ _).mono ?_
        rintro e w' ⟨rfl, rfl⟩
        rw [hs]
        go_wp2_with fail
        go_ret
        refine ⟨ret_boolN ?_, iter_ext _ _ _⟩
        have := all_not (p := fun c => smallB c.toNat) (l := s.data.toList) hlt (decode_notsmall s pos hlt hs)
        simp only [tenantB, this]; simp
      · obtain ⟨hd, hs2⟩ := decode_small s pos hlt hs
        rw [hd] at hnx
        have HC := Lib.hid (show ∃ c, c = s.data.toList[pos].toNat from ⟨_, rfl⟩)
        obtain ⟨c, hc⟩ := HC.out
        rw [← hc] at hnx hs2
        have Hs2 := Lib.hid hs2
        have Hc := Lib.hid hc
        clear hd hs2 hc HC
        by_cases hp0 : pos = 0
        · subst hp0
          cases hlw : lowB c
          · go_wp2_with fail
            refine (small_calls _ _).mono ?_
            rintro e w' ⟨rfl, rfl⟩
            rw [Hs2.out]
            go_wp2_with fail
            refine (low_calls _ _).mono ?_
            rintro e w' ⟨rfl, rfl⟩
            rw [hlw]
            go_wp2_with fail
            go_ret
            refine ⟨ret_boolN ?_, iter_ext _ _ _⟩
            have : (s.data.toList.take 1).all (fun c => lowB c.toNat) = false := all_not (k := 0) (by simp; omega) (by have := Hc.out; simp only [List.getElem_take]; rw [← this]; exact hlw)
            simp only [tenantB, this]; simp
          · go_wp2_with fail
            refine (small_calls _ _).mono ?_
            rintro e w' ⟨rfl, rfl⟩
            rw [Hs2.out]
            go_wp2_with fail
            refine (low_calls _ _).mono ?_
            rintro e w' ⟨rfl, rfl⟩
            rw [hlw]
            go_wp2_with fail
            go_roundw
            case rel => exact ⟨1, rfl, by omega, all_take_succ (p := fun c => smallB c.toNat) hlt (by rw [← Hc.out]; exact Hs2.out) Ha.out, all_take_succ (p := fun c => lowB c.toNat) hlt (by rw [← Hc.out]; exact hlw) (by simp)⟩
            case measure => simp; omega
        · have e2 : ((pos : Int) == 0) = false := by simp; omega
          go_wp2_with fail
          refine (small_calls _ _).mono ?_
          rintro e w' ⟨rfl, rfl⟩
          rw [Hs2.out]
          go_wp2_with fail
          go_roundw
          case rel => exact ⟨pos + 1, rfl, by omega, all_take_succ (p := fun c => smallB c.toNat) hlt (by rw [← Hc.out]; exact Hs2.out) Ha.out, by have := Hl.out; rw [show min pos 1 = 1 by omega] at this; rw [show min (pos + 1) 1 = 1 by omega]; exact this⟩
          case measure => simp; omega
    · have hnx : ∀ ty, (Instr.next (.pointer (some ⟨w.heap.size, 0, none⟩)) true ty).run Try.prog (w.iter s pos) = _ := fun ty => run_next_end w s pos ty hlt
      go_wp2_with fail
      go_ret
      refine ⟨ret_boolN ?_, iter_ext _ _ _⟩
      obtain rfl : pos = s.size := by omega
      have h3 := Ha.out
      have h4 := Hl.out
      rw [List.take_of_length_le (by rw [← HZ.out]; omega)] at h3
      rw [show min s.size 1 = 1 by omega] at h4
      simp only [tenantB, h3, h4]
      rw [← HZ.out, decide_eq_true (show 1 ≤ s.size by omega), decide_eq_true (show s.size ≤ 16 by omega)]; rfl

theorem tenant_calls (s : ByteArray) (w : World) : Calls Try.prog 183 #[.string s] w (RetV w (.bool (tenantB s.data.toList))) := by
  go_enter Try.func183, Try.ntmps183
  go_wp2_with fail
  refine (named_calls s _).mono ?_
  rintro e w1 ⟨rfl, h1⟩
  go_wp2_with fail
  go_ret
  exact ⟨rfl, h1⟩
end Go.Proofs.Ytlgngnkaiidbeaa
