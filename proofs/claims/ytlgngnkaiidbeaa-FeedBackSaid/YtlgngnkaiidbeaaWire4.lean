/- ref21.Check, kind by kind (written by wip/genw.py). -/
import Derived.Test.YtlgngnkaiidbeaaWire3
set_option maxRecDepth 100000
set_option linter.unusedSimpArgs false
set_option linter.unusedVariables false
namespace Go.Proofs.Ytlgngnkaiidbeaa
open Go.RowKit

set_option maxHeartbeats 4000000 in
theorem rwcheck_1 (s n : Int) (t : ByteArray) (A : Option Addr) (dl c : Nat) (w : World) (hz : t.size ≤ 1000000) :
    Calls Try.prog 40 #[fraA 1 s n t A dl c] w (RetV w (.int .i64 (wErr 1 s n t.data.toList dl))) := by
  obtain ⟨te, hte, hte2⟩ : ∃ b, t.toList.isEmpty = b ∧ (t.data.toList ≠ [] ↔ b = false) := ⟨_, rfl, by rw [ByteArray.toList_eq]; simp⟩
  have HTE := Lib.hid hte2
  clear hte2
  have X := Lib.hid (Ext.refl (w.alloc (.cells #[.int .i64 1, .int .i64 s, .int .i64 n, .string t, .slice A dl c] 65)))
  obtain ⟨c0, c1, c2, c3, c4⟩ := fra_cells X.out
  have HE : Hid (wErr 1 s n t.data.toList dl = if wNum 1 s n = false then 6 else if wTxt 1 t.data.toList = false then 7 else if fD 1 = true ∧ wMost 1 < dl then 3 else if (fS 1 = false ∧ s ≠ 0) ∨ (fN 1 = false ∧ n ≠ 0) ∨ (fT 1 = false ∧ t.data.toList ≠ []) ∨ (fD 1 = false ∧ 0 < dl) ∨ (dl : Int) < wLeast 1 then 2 else 0) := by simp [Hid, wErr, knownF]
  generalize wErr 1 s n t.data.toList dl = E at *
  unfold fraA
  cases te
  all_goals
    go_enter Try.func40, Try.ntmps40
    go_wp2_with (first | (go_at_call 82; (with_reducible refine (rwS 1 _).mono ?_); rintro e w1 ⟨rfl, h1⟩; rw [show fS 1 = false from rfl]; have X1 := Lib.hid (X.out.trans h1); clear X; have X := X1; clear X1 h1 c0 c1 c2 c3 c4; obtain ⟨c0, c1, c2, c3, c4⟩ := fra_cells X.out) | (go_at_call 82; (with_reducible refine (rwN 1 _).mono ?_); rintro e w1 ⟨rfl, h1⟩; rw [show fN 1 = false from rfl]; have X1 := Lib.hid (X.out.trans h1); clear X; have X := X1; clear X1 h1 c0 c1 c2 c3 c4; obtain ⟨c0, c1, c2, c3, c4⟩ := fra_cells X.out) | (go_at_call 82; (with_reducible refine (rwT 1 _).mono ?_); rintro e w1 ⟨rfl, h1⟩; rw [show fT 1 = false from rfl]; have X1 := Lib.hid (X.out.trans h1); clear X; have X := X1; clear X1 h1 c0 c1 c2 c3 c4; obtain ⟨c0, c1, c2, c3, c4⟩ := fra_cells X.out) | (go_at_call 82; (with_reducible refine (rwD 1 _).mono ?_); rintro e w1 ⟨rfl, h1⟩; rw [show fD 1 = true from rfl]; have X1 := Lib.hid (X.out.trans h1); clear X; have X := X1; clear X1 h1 c0 c1 c2 c3 c4; obtain ⟨c0, c1, c2, c3, c4⟩ := fra_cells X.out))
    all_goals
      go_ret
      refine ⟨ret_intW ?_, ((Ext.refl w).alloc _).trans X.out⟩
      rw [HE.out]
      simp only [HTE.out]
      simp [wNum, wTxt, fS, fN, fT, fD, wMost, wLeast, *]
      try omega

set_option maxHeartbeats 4000000 in
theorem rwcheck_2 (s n : Int) (t : ByteArray) (A : Option Addr) (dl c : Nat) (w : World) (hz : t.size ≤ 1000000) :
    Calls Try.prog 40 #[fraA 2 s n t A dl c] w (RetV w (.int .i64 (wErr 2 s n t.data.toList dl))) := by
  obtain ⟨te, hte, hte2⟩ : ∃ b, t.toList.isEmpty = b ∧ (t.data.toList ≠ [] ↔ b = false) := ⟨_, rfl, by rw [ByteArray.toList_eq]; simp⟩
  have HTE := Lib.hid hte2
  clear hte2
  have X := Lib.hid (Ext.refl (w.alloc (.cells #[.int .i64 2, .int .i64 s, .int .i64 n, .string t, .slice A dl c] 65)))
  obtain ⟨c0, c1, c2, c3, c4⟩ := fra_cells X.out
  have HE : Hid (wErr 2 s n t.data.toList dl = if wNum 2 s n = false then 6 else if wTxt 2 t.data.toList = false then 7 else if fD 2 = true ∧ wMost 2 < dl then 3 else if (fS 2 = false ∧ s ≠ 0) ∨ (fN 2 = false ∧ n ≠ 0) ∨ (fT 2 = false ∧ t.data.toList ≠ []) ∨ (fD 2 = false ∧ 0 < dl) ∨ (dl : Int) < wLeast 2 then 2 else 0) := by simp [Hid, wErr, knownF]
  generalize wErr 2 s n t.data.toList dl = E at *
  obtain ⟨tb, htb⟩ : ∃ b, tenantB t.data.toList = b := ⟨_, rfl⟩
  have HTB := Lib.hid htb
  clear htb
  unfold fraA
  cases te <;> cases tb
  all_goals
    go_enter Try.func40, Try.ntmps40
    go_wp2_with (first | (go_at_call 82; (with_reducible refine (rwS 2 _).mono ?_); rintro e w1 ⟨rfl, h1⟩; rw [show fS 2 = false from rfl]; have X1 := Lib.hid (X.out.trans h1); clear X; have X := X1; clear X1 h1 c0 c1 c2 c3 c4; obtain ⟨c0, c1, c2, c3, c4⟩ := fra_cells X.out) | (go_at_call 82; (with_reducible refine (rwN 2 _).mono ?_); rintro e w1 ⟨rfl, h1⟩; rw [show fN 2 = false from rfl]; have X1 := Lib.hid (X.out.trans h1); clear X; have X := X1; clear X1 h1 c0 c1 c2 c3 c4; obtain ⟨c0, c1, c2, c3, c4⟩ := fra_cells X.out) | (go_at_call 82; (with_reducible refine (rwT 2 _).mono ?_); rintro e w1 ⟨rfl, h1⟩; rw [show fT 2 = true from rfl]; have X1 := Lib.hid (X.out.trans h1); clear X; have X := X1; clear X1 h1 c0 c1 c2 c3 c4; obtain ⟨c0, c1, c2, c3, c4⟩ := fra_cells X.out) | (go_at_call 82; (with_reducible refine (rwD 2 _).mono ?_); rintro e w1 ⟨rfl, h1⟩; rw [show fD 2 = true from rfl]; have X1 := Lib.hid (X.out.trans h1); clear X; have X := X1; clear X1 h1 c0 c1 c2 c3 c4; obtain ⟨c0, c1, c2, c3, c4⟩ := fra_cells X.out) | (go_at_call 83; refine (rtenant_calls t _ hz).mono ?_; rintro e w1 ⟨rfl, rfl⟩; rw [HTB.out]))
    all_goals
      go_ret
      refine ⟨ret_intW ?_, ((Ext.refl w).alloc _).trans X.out⟩
      rw [HE.out]
      simp only [HTE.out]
      simp [wNum, wTxt, fS, fN, fT, fD, wMost, wLeast, HTB.out, *]
      try omega

set_option maxHeartbeats 4000000 in
theorem rwcheck_3 (s n : Int) (t : ByteArray) (A : Option Addr) (dl c : Nat) (w : World) (hz : t.size ≤ 1000000) :
    Calls Try.prog 40 #[fraA 3 s n t A dl c] w (RetV w (.int .i64 (wErr 3 s n t.data.toList dl))) := by
  obtain ⟨te, hte, hte2⟩ : ∃ b, t.toList.isEmpty = b ∧ (t.data.toList ≠ [] ↔ b = false) := ⟨_, rfl, by rw [ByteArray.toList_eq]; simp⟩
  have HTE := Lib.hid hte2
  clear hte2
  have X := Lib.hid (Ext.refl (w.alloc (.cells #[.int .i64 3, .int .i64 s, .int .i64 n, .string t, .slice A dl c] 65)))
  obtain ⟨c0, c1, c2, c3, c4⟩ := fra_cells X.out
  have HE : Hid (wErr 3 s n t.data.toList dl = if wNum 3 s n = false then 6 else if wTxt 3 t.data.toList = false then 7 else if fD 3 = true ∧ wMost 3 < dl then 3 else if (fS 3 = false ∧ s ≠ 0) ∨ (fN 3 = false ∧ n ≠ 0) ∨ (fT 3 = false ∧ t.data.toList ≠ []) ∨ (fD 3 = false ∧ 0 < dl) ∨ (dl : Int) < wLeast 3 then 2 else 0) := by simp [Hid, wErr, knownF]
  generalize wErr 3 s n t.data.toList dl = E at *
  unfold fraA
  cases te
  all_goals
    go_enter Try.func40, Try.ntmps40
    go_wp2_with (first | (go_at_call 82; (with_reducible refine (rwS 3 _).mono ?_); rintro e w1 ⟨rfl, h1⟩; rw [show fS 3 = false from rfl]; have X1 := Lib.hid (X.out.trans h1); clear X; have X := X1; clear X1 h1 c0 c1 c2 c3 c4; obtain ⟨c0, c1, c2, c3, c4⟩ := fra_cells X.out) | (go_at_call 82; (with_reducible refine (rwN 3 _).mono ?_); rintro e w1 ⟨rfl, h1⟩; rw [show fN 3 = false from rfl]; have X1 := Lib.hid (X.out.trans h1); clear X; have X := X1; clear X1 h1 c0 c1 c2 c3 c4; obtain ⟨c0, c1, c2, c3, c4⟩ := fra_cells X.out) | (go_at_call 82; (with_reducible refine (rwT 3 _).mono ?_); rintro e w1 ⟨rfl, h1⟩; rw [show fT 3 = false from rfl]; have X1 := Lib.hid (X.out.trans h1); clear X; have X := X1; clear X1 h1 c0 c1 c2 c3 c4; obtain ⟨c0, c1, c2, c3, c4⟩ := fra_cells X.out) | (go_at_call 82; (with_reducible refine (rwD 3 _).mono ?_); rintro e w1 ⟨rfl, h1⟩; rw [show fD 3 = false from rfl]; have X1 := Lib.hid (X.out.trans h1); clear X; have X := X1; clear X1 h1 c0 c1 c2 c3 c4; obtain ⟨c0, c1, c2, c3, c4⟩ := fra_cells X.out))
    all_goals
      go_ret
      refine ⟨ret_intW ?_, ((Ext.refl w).alloc _).trans X.out⟩
      rw [HE.out]
      simp only [HTE.out]
      simp [wNum, wTxt, fS, fN, fT, fD, wMost, wLeast, *]
      try omega

set_option maxHeartbeats 4000000 in
theorem rwcheck_4 (s n : Int) (t : ByteArray) (A : Option Addr) (dl c : Nat) (w : World) (hz : t.size ≤ 1000000) :
    Calls Try.prog 40 #[fraA 4 s n t A dl c] w (RetV w (.int .i64 (wErr 4 s n t.data.toList dl))) := by
  obtain ⟨te, hte, hte2⟩ : ∃ b, t.toList.isEmpty = b ∧ (t.data.toList ≠ [] ↔ b = false) := ⟨_, rfl, by rw [ByteArray.toList_eq]; simp⟩
  have HTE := Lib.hid hte2
  clear hte2
  have X := Lib.hid (Ext.refl (w.alloc (.cells #[.int .i64 4, .int .i64 s, .int .i64 n, .string t, .slice A dl c] 65)))
  obtain ⟨c0, c1, c2, c3, c4⟩ := fra_cells X.out
  have HE : Hid (wErr 4 s n t.data.toList dl = if wNum 4 s n = false then 6 else if wTxt 4 t.data.toList = false then 7 else if fD 4 = true ∧ wMost 4 < dl then 3 else if (fS 4 = false ∧ s ≠ 0) ∨ (fN 4 = false ∧ n ≠ 0) ∨ (fT 4 = false ∧ t.data.toList ≠ []) ∨ (fD 4 = false ∧ 0 < dl) ∨ (dl : Int) < wLeast 4 then 2 else 0) := by simp [Hid, wErr, knownF]
  generalize wErr 4 s n t.data.toList dl = E at *
  obtain ⟨tb, htb⟩ : ∃ b, targetB t.data.toList = b := ⟨_, rfl⟩
  have HTB := Lib.hid htb
  clear htb
  unfold fraA
  cases te <;> cases tb
  all_goals
    go_enter Try.func40, Try.ntmps40
    go_wp2_with (first | (go_at_call 82; (with_reducible refine (rwS 4 _).mono ?_); rintro e w1 ⟨rfl, h1⟩; rw [show fS 4 = true from rfl]; have X1 := Lib.hid (X.out.trans h1); clear X; have X := X1; clear X1 h1 c0 c1 c2 c3 c4; obtain ⟨c0, c1, c2, c3, c4⟩ := fra_cells X.out) | (go_at_call 82; (with_reducible refine (rwN 4 _).mono ?_); rintro e w1 ⟨rfl, h1⟩; rw [show fN 4 = false from rfl]; have X1 := Lib.hid (X.out.trans h1); clear X; have X := X1; clear X1 h1 c0 c1 c2 c3 c4; obtain ⟨c0, c1, c2, c3, c4⟩ := fra_cells X.out) | (go_at_call 82; (with_reducible refine (rwT 4 _).mono ?_); rintro e w1 ⟨rfl, h1⟩; rw [show fT 4 = true from rfl]; have X1 := Lib.hid (X.out.trans h1); clear X; have X := X1; clear X1 h1 c0 c1 c2 c3 c4; obtain ⟨c0, c1, c2, c3, c4⟩ := fra_cells X.out) | (go_at_call 82; (with_reducible refine (rwD 4 _).mono ?_); rintro e w1 ⟨rfl, h1⟩; rw [show fD 4 = false from rfl]; have X1 := Lib.hid (X.out.trans h1); clear X; have X := X1; clear X1 h1 c0 c1 c2 c3 c4; obtain ⟨c0, c1, c2, c3, c4⟩ := fra_cells X.out) | (go_at_call 84; refine (rtarget_calls t _ hz).mono ?_; rintro e w1 ⟨rfl, rfl⟩; rw [HTB.out]))
    all_goals
      go_ret
      refine ⟨ret_intW ?_, ((Ext.refl w).alloc _).trans X.out⟩
      rw [HE.out]
      simp only [HTE.out]
      simp [wNum, wTxt, fS, fN, fT, fD, wMost, wLeast, HTB.out, *]
      try omega

set_option maxHeartbeats 4000000 in
theorem rwcheck_5 (s n : Int) (t : ByteArray) (A : Option Addr) (dl c : Nat) (w : World) (hz : t.size ≤ 1000000) :
    Calls Try.prog 40 #[fraA 5 s n t A dl c] w (RetV w (.int .i64 (wErr 5 s n t.data.toList dl))) := by
  obtain ⟨te, hte, hte2⟩ : ∃ b, t.toList.isEmpty = b ∧ (t.data.toList ≠ [] ↔ b = false) := ⟨_, rfl, by rw [ByteArray.toList_eq]; simp⟩
  have HTE := Lib.hid hte2
  clear hte2
  have X := Lib.hid (Ext.refl (w.alloc (.cells #[.int .i64 5, .int .i64 s, .int .i64 n, .string t, .slice A dl c] 65)))
  obtain ⟨c0, c1, c2, c3, c4⟩ := fra_cells X.out
  have HE : Hid (wErr 5 s n t.data.toList dl = if wNum 5 s n = false then 6 else if wTxt 5 t.data.toList = false then 7 else if fD 5 = true ∧ wMost 5 < dl then 3 else if (fS 5 = false ∧ s ≠ 0) ∨ (fN 5 = false ∧ n ≠ 0) ∨ (fT 5 = false ∧ t.data.toList ≠ []) ∨ (fD 5 = false ∧ 0 < dl) ∨ (dl : Int) < wLeast 5 then 2 else 0) := by simp [Hid, wErr, knownF]
  generalize wErr 5 s n t.data.toList dl = E at *
  unfold fraA
  cases te
  all_goals
    go_enter Try.func40, Try.ntmps40
    go_wp2_with (first | (go_at_call 82; (with_reducible refine (rwS 5 _).mono ?_); rintro e w1 ⟨rfl, h1⟩; rw [show fS 5 = true from rfl]; have X1 := Lib.hid (X.out.trans h1); clear X; have X := X1; clear X1 h1 c0 c1 c2 c3 c4; obtain ⟨c0, c1, c2, c3, c4⟩ := fra_cells X.out) | (go_at_call 82; (with_reducible refine (rwN 5 _).mono ?_); rintro e w1 ⟨rfl, h1⟩; rw [show fN 5 = false from rfl]; have X1 := Lib.hid (X.out.trans h1); clear X; have X := X1; clear X1 h1 c0 c1 c2 c3 c4; obtain ⟨c0, c1, c2, c3, c4⟩ := fra_cells X.out) | (go_at_call 82; (with_reducible refine (rwT 5 _).mono ?_); rintro e w1 ⟨rfl, h1⟩; rw [show fT 5 = false from rfl]; have X1 := Lib.hid (X.out.trans h1); clear X; have X := X1; clear X1 h1 c0 c1 c2 c3 c4; obtain ⟨c0, c1, c2, c3, c4⟩ := fra_cells X.out) | (go_at_call 82; (with_reducible refine (rwD 5 _).mono ?_); rintro e w1 ⟨rfl, h1⟩; rw [show fD 5 = true from rfl]; have X1 := Lib.hid (X.out.trans h1); clear X; have X := X1; clear X1 h1 c0 c1 c2 c3 c4; obtain ⟨c0, c1, c2, c3, c4⟩ := fra_cells X.out))
    all_goals
      go_ret
      refine ⟨ret_intW ?_, ((Ext.refl w).alloc _).trans X.out⟩
      rw [HE.out]
      simp only [HTE.out]
      simp [wNum, wTxt, fS, fN, fT, fD, wMost, wLeast, *]
      try omega

set_option maxHeartbeats 4000000 in
theorem rwcheck_6 (s n : Int) (t : ByteArray) (A : Option Addr) (dl c : Nat) (w : World) (hz : t.size ≤ 1000000) :
    Calls Try.prog 40 #[fraA 6 s n t A dl c] w (RetV w (.int .i64 (wErr 6 s n t.data.toList dl))) := by
  obtain ⟨te, hte, hte2⟩ : ∃ b, t.toList.isEmpty = b ∧ (t.data.toList ≠ [] ↔ b = false) := ⟨_, rfl, by rw [ByteArray.toList_eq]; simp⟩
  have HTE := Lib.hid hte2
  clear hte2
  have X := Lib.hid (Ext.refl (w.alloc (.cells #[.int .i64 6, .int .i64 s, .int .i64 n, .string t, .slice A dl c] 65)))
  obtain ⟨c0, c1, c2, c3, c4⟩ := fra_cells X.out
  have HE : Hid (wErr 6 s n t.data.toList dl = if wNum 6 s n = false then 6 else if wTxt 6 t.data.toList = false then 7 else if fD 6 = true ∧ wMost 6 < dl then 3 else if (fS 6 = false ∧ s ≠ 0) ∨ (fN 6 = false ∧ n ≠ 0) ∨ (fT 6 = false ∧ t.data.toList ≠ []) ∨ (fD 6 = false ∧ 0 < dl) ∨ (dl : Int) < wLeast 6 then 2 else 0) := by simp [Hid, wErr, knownF]
  generalize wErr 6 s n t.data.toList dl = E at *
  unfold fraA
  cases te
  all_goals
    go_enter Try.func40, Try.ntmps40
    go_wp2_with (first | (go_at_call 82; (with_reducible refine (rwS 6 _).mono ?_); rintro e w1 ⟨rfl, h1⟩; rw [show fS 6 = true from rfl]; have X1 := Lib.hid (X.out.trans h1); clear X; have X := X1; clear X1 h1 c0 c1 c2 c3 c4; obtain ⟨c0, c1, c2, c3, c4⟩ := fra_cells X.out) | (go_at_call 82; (with_reducible refine (rwN 6 _).mono ?_); rintro e w1 ⟨rfl, h1⟩; rw [show fN 6 = true from rfl]; have X1 := Lib.hid (X.out.trans h1); clear X; have X := X1; clear X1 h1 c0 c1 c2 c3 c4; obtain ⟨c0, c1, c2, c3, c4⟩ := fra_cells X.out) | (go_at_call 82; (with_reducible refine (rwT 6 _).mono ?_); rintro e w1 ⟨rfl, h1⟩; rw [show fT 6 = false from rfl]; have X1 := Lib.hid (X.out.trans h1); clear X; have X := X1; clear X1 h1 c0 c1 c2 c3 c4; obtain ⟨c0, c1, c2, c3, c4⟩ := fra_cells X.out) | (go_at_call 82; (with_reducible refine (rwD 6 _).mono ?_); rintro e w1 ⟨rfl, h1⟩; rw [show fD 6 = false from rfl]; have X1 := Lib.hid (X.out.trans h1); clear X; have X := X1; clear X1 h1 c0 c1 c2 c3 c4; obtain ⟨c0, c1, c2, c3, c4⟩ := fra_cells X.out))
    all_goals
      go_ret
      refine ⟨ret_intW ?_, ((Ext.refl w).alloc _).trans X.out⟩
      rw [HE.out]
      simp only [HTE.out]
      simp [wNum, wTxt, fS, fN, fT, fD, wMost, wLeast, *]
      try omega

set_option maxHeartbeats 4000000 in
theorem rwcheck_7 (s n : Int) (t : ByteArray) (A : Option Addr) (dl c : Nat) (w : World) (hz : t.size ≤ 1000000) :
    Calls Try.prog 40 #[fraA 7 s n t A dl c] w (RetV w (.int .i64 (wErr 7 s n t.data.toList dl))) := by
  obtain ⟨te, hte, hte2⟩ : ∃ b, t.toList.isEmpty = b ∧ (t.data.toList ≠ [] ↔ b = false) := ⟨_, rfl, by rw [ByteArray.toList_eq]; simp⟩
  have HTE := Lib.hid hte2
  clear hte2
  have X := Lib.hid (Ext.refl (w.alloc (.cells #[.int .i64 7, .int .i64 s, .int .i64 n, .string t, .slice A dl c] 65)))
  obtain ⟨c0, c1, c2, c3, c4⟩ := fra_cells X.out
  have HE : Hid (wErr 7 s n t.data.toList dl = if wNum 7 s n = false then 6 else if wTxt 7 t.data.toList = false then 7 else if fD 7 = true ∧ wMost 7 < dl then 3 else if (fS 7 = false ∧ s ≠ 0) ∨ (fN 7 = false ∧ n ≠ 0) ∨ (fT 7 = false ∧ t.data.toList ≠ []) ∨ (fD 7 = false ∧ 0 < dl) ∨ (dl : Int) < wLeast 7 then 2 else 0) := by simp [Hid, wErr, knownF]
  generalize wErr 7 s n t.data.toList dl = E at *
  unfold fraA
  cases te
  all_goals
    go_enter Try.func40, Try.ntmps40
    go_wp2_with (first | (go_at_call 82; (with_reducible refine (rwS 7 _).mono ?_); rintro e w1 ⟨rfl, h1⟩; rw [show fS 7 = true from rfl]; have X1 := Lib.hid (X.out.trans h1); clear X; have X := X1; clear X1 h1 c0 c1 c2 c3 c4; obtain ⟨c0, c1, c2, c3, c4⟩ := fra_cells X.out) | (go_at_call 82; (with_reducible refine (rwN 7 _).mono ?_); rintro e w1 ⟨rfl, h1⟩; rw [show fN 7 = false from rfl]; have X1 := Lib.hid (X.out.trans h1); clear X; have X := X1; clear X1 h1 c0 c1 c2 c3 c4; obtain ⟨c0, c1, c2, c3, c4⟩ := fra_cells X.out) | (go_at_call 82; (with_reducible refine (rwT 7 _).mono ?_); rintro e w1 ⟨rfl, h1⟩; rw [show fT 7 = false from rfl]; have X1 := Lib.hid (X.out.trans h1); clear X; have X := X1; clear X1 h1 c0 c1 c2 c3 c4; obtain ⟨c0, c1, c2, c3, c4⟩ := fra_cells X.out) | (go_at_call 82; (with_reducible refine (rwD 7 _).mono ?_); rintro e w1 ⟨rfl, h1⟩; rw [show fD 7 = false from rfl]; have X1 := Lib.hid (X.out.trans h1); clear X; have X := X1; clear X1 h1 c0 c1 c2 c3 c4; obtain ⟨c0, c1, c2, c3, c4⟩ := fra_cells X.out))
    all_goals
      go_ret
      refine ⟨ret_intW ?_, ((Ext.refl w).alloc _).trans X.out⟩
      rw [HE.out]
      simp only [HTE.out]
      simp [wNum, wTxt, fS, fN, fT, fD, wMost, wLeast, *]
      try omega

set_option maxHeartbeats 4000000 in
theorem rwcheck_8 (s n : Int) (t : ByteArray) (A : Option Addr) (dl c : Nat) (w : World) (hz : t.size ≤ 1000000) :
    Calls Try.prog 40 #[fraA 8 s n t A dl c] w (RetV w (.int .i64 (wErr 8 s n t.data.toList dl))) := by
  obtain ⟨te, hte, hte2⟩ : ∃ b, t.toList.isEmpty = b ∧ (t.data.toList ≠ [] ↔ b = false) := ⟨_, rfl, by rw [ByteArray.toList_eq]; simp⟩
  have HTE := Lib.hid hte2
  clear hte2
  have X := Lib.hid (Ext.refl (w.alloc (.cells #[.int .i64 8, .int .i64 s, .int .i64 n, .string t, .slice A dl c] 65)))
  obtain ⟨c0, c1, c2, c3, c4⟩ := fra_cells X.out
  have HE : Hid (wErr 8 s n t.data.toList dl = if wNum 8 s n = false then 6 else if wTxt 8 t.data.toList = false then 7 else if fD 8 = true ∧ wMost 8 < dl then 3 else if (fS 8 = false ∧ s ≠ 0) ∨ (fN 8 = false ∧ n ≠ 0) ∨ (fT 8 = false ∧ t.data.toList ≠ []) ∨ (fD 8 = false ∧ 0 < dl) ∨ (dl : Int) < wLeast 8 then 2 else 0) := by simp [Hid, wErr, knownF]
  generalize wErr 8 s n t.data.toList dl = E at *
  unfold fraA
  cases te
  all_goals
    go_enter Try.func40, Try.ntmps40
    go_wp2_with (first | (go_at_call 82; (with_reducible refine (rwS 8 _).mono ?_); rintro e w1 ⟨rfl, h1⟩; rw [show fS 8 = true from rfl]; have X1 := Lib.hid (X.out.trans h1); clear X; have X := X1; clear X1 h1 c0 c1 c2 c3 c4; obtain ⟨c0, c1, c2, c3, c4⟩ := fra_cells X.out) | (go_at_call 82; (with_reducible refine (rwN 8 _).mono ?_); rintro e w1 ⟨rfl, h1⟩; rw [show fN 8 = true from rfl]; have X1 := Lib.hid (X.out.trans h1); clear X; have X := X1; clear X1 h1 c0 c1 c2 c3 c4; obtain ⟨c0, c1, c2, c3, c4⟩ := fra_cells X.out) | (go_at_call 82; (with_reducible refine (rwT 8 _).mono ?_); rintro e w1 ⟨rfl, h1⟩; rw [show fT 8 = false from rfl]; have X1 := Lib.hid (X.out.trans h1); clear X; have X := X1; clear X1 h1 c0 c1 c2 c3 c4; obtain ⟨c0, c1, c2, c3, c4⟩ := fra_cells X.out) | (go_at_call 82; (with_reducible refine (rwD 8 _).mono ?_); rintro e w1 ⟨rfl, h1⟩; rw [show fD 8 = false from rfl]; have X1 := Lib.hid (X.out.trans h1); clear X; have X := X1; clear X1 h1 c0 c1 c2 c3 c4; obtain ⟨c0, c1, c2, c3, c4⟩ := fra_cells X.out))
    all_goals
      go_ret
      refine ⟨ret_intW ?_, ((Ext.refl w).alloc _).trans X.out⟩
      rw [HE.out]
      simp only [HTE.out]
      simp [wNum, wTxt, fS, fN, fT, fD, wMost, wLeast, *]
      try omega

theorem rwcheck_out (k s n : Int) (t : ByteArray) (A : Option Addr) (dl c : Nat) (w : World) (hk : k < 1 ∨ 8 < k) :
    Calls Try.prog 40 #[fraA k s n t A dl c] w (RetV w (.int .i64 (wErr k s n t.data.toList dl))) := by
  have HE : Hid (wErr k s n t.data.toList dl = 5) := by
    have : knownF k = false := by simp [knownF]; omega
    simp [Hid, wErr, this]
  unfold fraA
  by_cases h : k < 1
  · clear hk
    go_enter Try.func40, Try.ntmps40
    go_wp2_with fail
    go_ret
    rw [HE.out]
    exact ⟨rfl, (Ext.refl w).alloc _⟩
  · have h8 : 8 < k := by omega
    have h1 : decide (k < 1) = false := by simp; omega
    clear hk h
    go_enter Try.func40, Try.ntmps40
    go_wp2_with fail
    go_ret
    rw [HE.out]
    exact ⟨rfl, (Ext.refl w).alloc _⟩

theorem rwcheck_calls (k s n : Int) (t : ByteArray) (A : Option Addr) (dl c : Nat) (w : World) (hz : t.size ≤ 1000000) :
    Calls Try.prog 40 #[fraA k s n t A dl c] w (RetV w (.int .i64 (wErr k s n t.data.toList dl))) := by
  rcases kindF_cases k with rfl | rfl | rfl | rfl | rfl | rfl | rfl | rfl | h | h
  · exact rwcheck_1 s n t A dl c w hz
  · exact rwcheck_2 s n t A dl c w hz
  · exact rwcheck_3 s n t A dl c w hz
  · exact rwcheck_4 s n t A dl c w hz
  · exact rwcheck_5 s n t A dl c w hz
  · exact rwcheck_6 s n t A dl c w hz
  · exact rwcheck_7 s n t A dl c w hz
  · exact rwcheck_8 s n t A dl c w hz
  · exact rwcheck_out k s n t A dl c w (.inl h)
  · exact rwcheck_out k s n t A dl c w (.inr h)
end Go.Proofs.Ytlgngnkaiidbeaa
