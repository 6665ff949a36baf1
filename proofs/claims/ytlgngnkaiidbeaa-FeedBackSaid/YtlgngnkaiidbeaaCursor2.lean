/- Contracts of octet's Cursor: Bytes, Text, Left, Err, Done; a cursor that is nil. -/
import Derived.Test.YtlgngnkaiidbeaaCursor
import Derived.Laws.IdiomStrings
import Derived.Laws.BytesArg
set_option maxRecDepth 100000
set_option linter.unusedVariables false
set_option linter.unusedSimpArgs false
namespace Go.Proofs.Ytlgngnkaiidbeaa
open Go.RowKit

theorem run_str (w : World) (A : Option Addr) (c : Nat) (l : List UInt8) (h : RdB w A l) : (convert 27 9 (.slice A l.length c)).run Try.prog w = .ok (.string ⟨l.toArray⟩) w := by
  cases A with
  | none =>
    have hn : l = [] := by
      cases l with
      | nil => rfl
      | cons y l => obtain ⟨ad, h, _⟩ := h 0 (bv y) (by simp); cases h
    subst hn
    exact run_convert_bytes_nil w _ _ Try.underlying27 Try.underlying5 0 c _ Try.underlying9
  | some a =>
    refine run_convert_bytes_back w _ _ _ a c l Try.underlying27 Try.underlying5 Try.underlying9 ?_
    intro j hj
    obtain ⟨ad, hh, hq⟩ := h.at_ hj
    cases hh
    exact hq

theorem takeC_len (bs : List UInt8) (k : Nat) (er : Int) (n : Nat) : (takeC bs k er n).1.length ≤ bs.length := by
  unfold takeC; split
  · simp
  · split
    · simp
    · simp; omega

/-- Bytes, by definition -/
def bytesC (bs : List UInt8) (k : Nat) (er : Int) (n : Int) : List UInt8 × Nat × Int :=
  if n ≤ 0 then ([], k, er) else takeC bs k er n.toNat

def RetCB (w : World) (g : Nat) (bs : List UInt8) (r : List UInt8 × Nat × Int) (e : Ending) (w' : World) : Prop :=
  ∃ A c, e = .returned (.slice A r.1.length c) ∧ OwnB w' w.heap.size A c r.1 ∧ w.grownBy w' (some g) ∧ Cur w' g bs r.2.1 r.2.2

set_option maxHeartbeats 400000 in
theorem cbytes_calls (g : Nat) (bs : List UInt8) (k : Nat) (er : Int) (n : Int) (w : World) (hc : Cur w g bs k er) (hl : bs.length ≤ 1000000) (hn : n ≤ 9223372036854775807) :
    Calls Try.prog 150 #[.pointer (some ⟨g, 0, none⟩), .int .i64 n] w (RetCB w g bs (bytesC bs k er n)) := by
  have Hc := Lib.hid hc
  clear hc
  by_cases h0 : n ≤ 0
  · have HB : Hid (bytesC bs k er n = ([], k, er)) := by show _ = _; simp [bytesC, h0]
    rw [HB.out]
    go_enter Try.func150, Try.ntmps150
    go_wp2
    go_ret
    exact ⟨none, 0, rfl, OwnB.nil _ _, grown_refl _ _, Hc.out⟩
  · obtain ⟨m, rfl⟩ : ∃ m : Nat, n = m := ⟨n.toNat, by omega⟩
    have HB : Hid (bytesC bs k er m = takeC bs k er m) := by show _ = _; rw [bytesC, if_neg h0]; rfl
    rw [HB.out]
    have hlen := takeC_len bs k er m
    go_enter Try.func150, Try.ntmps150
    go_wp2_with fail
    refine (take_calls g bs k er m _ Hc.out hl (by omega)).mono ?_
    rintro e w1 ⟨A, c, rfl, hr, hcap, hg, hcur⟩
    generalize takeC bs k er m = r at *
    obtain ⟨l, k', er'⟩ := r
    have HG := Lib.hid hg
    have HC := Lib.hid hcur
    have HR := Lib.hid hr
    clear hg hcur hr
    dsimp only at *
    go_wp2_with (at_builtin; refine cpyB _ rfl (.const (.slice none 0 0)) (.tmp 9) rfl rfl A c l rfl ?_ HR.out ?c2; intro A1 c1 w2 h1 e1; have H1 := Lib.hid h1; have E1 := Lib.hid e1; clear h1 e1)
    case c2 => omega
    go_ret
    refine ⟨A1, c1, rfl, H1.out.lower HG.out.size, HG.out.trans ⟨E1.out.os, E1.out.tape, E1.out.output, E1.out.size, fun j hj _ => E1.out.below.block j hj⟩, HC.out.ext E1.out⟩

/-- Text, by definition -/
def textC (bs : List UInt8) (k : Nat) (er : Int) (width most : Int) : List UInt8 × Nat × Int :=
  if (numC bs k er width).2.2 ≠ 0 then ([], (numC bs k er width).2)
  else if most < 0 ∨ most < (numC bs k er width).1 then ([], (numC bs k er width).2.1, 2)
  else takeC bs (numC bs k er width).2.1 0 (numC bs k er width).1

theorem numC_lt (bs : List UInt8) (k : Nat) (er : Int) (width : Int) : (numC bs k er width).1 < 18446744073709551616 := by
  unfold numC; split
  · rename_i h
    refine leN_lt8 _ ?_
    rw [okW_iff] at h
    unfold takeC; split
    · simp
    · split
      · simp
      · simp; omega
  · simp

set_option maxHeartbeats 400000 in
theorem ctext_calls (g : Nat) (bs : List UInt8) (k : Nat) (er : Int) (width most : Int) (w : World) (hc : Cur w g bs k er) (hl : bs.length ≤ 1000000) (hm : most ≤ 9223372036854775807) :
    Calls Try.prog 148 #[.pointer (some ⟨g, 0, none⟩), .int .i64 width, .int .i64 most] w (RetCV w g bs (.string ⟨(textC bs k er width most).1.toArray⟩) (textC bs k er width most).2.1 (textC bs k er width most).2.2) := by
  have Hc := Lib.hid hc
  have HT : Hid (textC bs k er width most = if (numC bs k er width).2.2 ≠ 0 then ([], (numC bs k er width).2)
    else if most < 0 ∨ most < (numC bs k er width).1 then ([], (numC bs k er width).2.1, 2)
    else takeC bs (numC bs k er width).2.1 0 (numC bs k er width).1) := rfl
  clear hc
  have hlt := numC_lt bs k er width
  generalize textC bs k er width most = T at *
  go_enter Try.func148, Try.ntmps148
  go_wp2_with fail
  refine (cnumber_calls g bs k er width _ Hc.out hl).mono ?_
  rintro e w1 ⟨rfl, hg, hcur⟩
  generalize numC bs k er width = r at *
  obtain ⟨n, k', er'⟩ := r
  dsimp only at *
  have Hg := Lib.hid hg
  have HC := Lib.hid hcur
  obtain ⟨A, c, hblk, hrd, hcap, hcm, hne, hk⟩ := hcur
  have c2 : w1.cell? ⟨g, 2, none⟩ = some (.int .i64 er') := block_cell hblk 2
  have f2 : w1.frozen? ⟨g, 2, none⟩ = false := block_frozen hblk 2
  clear hblk hrd hcap hcm hne hk hg
  by_cases he : er' = 0
  · subst he
    by_cases h1 : most < 0
    · have HT2 : Hid (T = ([], k', 2)) := by show _ = _; rw [HT.out]; simp [h1]
      go_wp2
      go_ret
      rw [HT2.out]
      exact ⟨rfl, Hg.out.trans (grown_setCellC _ _ _ _), HC.out.setErr 2⟩
    · by_cases h2 : most < n
      · have HT2 : Hid (T = ([], k', 2)) := by show _ = _; rw [HT.out]; simp [h2]
        have hmod : most % 18446744073709551616 = most := by omega
        go_wp2
        go_ret
        rw [HT2.out]
        exact ⟨rfl, Hg.out.trans (grown_setCellC _ _ _ _), HC.out.setErr 2⟩
      · have HT2 : Hid (T = takeC bs k' 0 n) := by show _ = _; rw [HT.out]; simp [h1, h2]
        go_wp2_with fail
        refine (take_calls g bs k' 0 n _ HC.out hl (by omega)).mono ?_
        rintro e w2 ⟨A2, c2', rfl, hr, hcap, hg, hcur⟩
        generalize takeC bs k' 0 n = r at *
        obtain ⟨l, k2, er2⟩ := r
        dsimp only at *
        have hstr := run_str w2 A2 c2' l hr
        have HG := Lib.hid (Hg.out.trans hg)
        have HC2 := Lib.hid hcur
        clear hg hcur hr
        go_wp2_with fail
        go_ret
        rw [HT2.out]
        exact ⟨rfl, HG.out, HC2.out⟩
  · have h0 : (er' != 0) = true := by simpa using he
    have HT2 : Hid (T = ([], k', er')) := by show _ = _; rw [HT.out]; simp [he]
    clear he
    go_wp2
    go_ret
    rw [HT2.out]
    exact ⟨rfl, Hg.out, HC.out⟩

theorem cleft_calls (g : Nat) (bs : List UInt8) (k : Nat) (er : Int) (w : World) (hc : Cur w g bs k er) (hl : bs.length ≤ 1000000) :
    Calls Try.prog 141 #[.pointer (some ⟨g, 0, none⟩)] w fun e w' => e = .returned (.int .i64 ((bs.length - k : Nat) : Int)) ∧ ∃ n, w' = w.drewN n := by
  obtain ⟨A, c, hblk, hrd, hcap, hcm, hne, hk⟩ := hc
  have c0 : w.cell? ⟨g, 0, none⟩ = some (.slice A bs.length c) := block_cell hblk 0
  have c1 : w.cell? ⟨g, 1, none⟩ = some (.int .i64 k) := block_cell hblk 1
  clear hblk hrd hcap hcm hne
  go_enter Try.func141, Try.ntmps141
  go_wp2
  go_quiet (fail)
  go_wp2
  go_ret
  exact ⟨ret_int (by omega), _, rfl⟩

theorem cerr_calls (g : Nat) (bs : List UInt8) (k : Nat) (er : Int) (w : World) (hc : Cur w g bs k er) :
    Calls Try.prog 140 #[.pointer (some ⟨g, 0, none⟩)] w fun e w' => e = .returned (.int .i64 er) ∧ w = w' := by
  obtain ⟨A, c, hblk, hrd, hcap, hcm, hne, hk⟩ := hc
  have c2 : w.cell? ⟨g, 2, none⟩ = some (.int .i64 er) := block_cell hblk 2
  clear hblk hrd hcap hcm hne
  go_enter Try.func140, Try.ntmps140
  go_wp2
  go_ret
  exact ⟨rfl, rfl⟩

def doneC (bs : List UInt8) (k : Nat) (er : Int) : Int := if er ≠ 0 then er else if k < bs.length then 2 else 0

set_option maxHeartbeats 400000 in
theorem cdone_calls (g : Nat) (bs : List UInt8) (k : Nat) (er : Int) (w : World) (hc : Cur w g bs k er) (hl : bs.length ≤ 1000000) :
    Calls Try.prog 151 #[.pointer (some ⟨g, 0, none⟩)] w fun e w' => e = .returned (.int .i64 (doneC bs k er)) ∧ ∃ n, w' = w.drewN n := by
  have Hc := Lib.hid hc
  clear hc
  by_cases he : er = 0
  · subst he
    by_cases hk : k < bs.length
    · rw [show doneC bs k 0 = 2 from by simp [doneC, hk]]
      go_enter Try.func151, Try.ntmps151
      go_wp2_with fail
      refine (cerr_calls g bs k 0 _ Hc.out).mono ?_
      rintro e w' ⟨rfl, rfl⟩
      go_wp2_with fail
      refine (cleft_calls g bs k 0 _ Hc.out hl).mono ?_
      rintro e w1 ⟨rfl, n, rfl⟩
      have h1 : (0 : Int) < ((bs.length - k : Nat) : Int) := by omega
      generalize bs.length - k = z at *
      go_wp2_with fail
      go_ret
      exact ⟨rfl, n, rfl⟩
    · rw [show doneC bs k 0 = 0 from by simp [doneC, hk]]
      go_enter Try.func151, Try.ntmps151
      go_wp2_with fail
      refine (cerr_calls g bs k 0 _ Hc.out).mono ?_
      rintro e w' ⟨rfl, rfl⟩
      go_wp2_with fail
      refine (cleft_calls g bs k 0 _ Hc.out hl).mono ?_
      rintro e w1 ⟨rfl, n, rfl⟩
      have h1 : ¬ (0 : Int) < ((bs.length - k : Nat) : Int) := by omega
      generalize bs.length - k = z at *
      go_wp2_with fail
      go_ret
      exact ⟨rfl, n, rfl⟩
  · rw [show doneC bs k er = er from by simp [doneC, he]]
    have h0 : (er != 0) = true := by simpa using he
    clear he
    go_enter Try.func151, Try.ntmps151
    go_wp2_with fail
    refine (cerr_calls g bs k er _ Hc.out).mono ?_
    rintro e w' ⟨rfl, rfl⟩
    go_wp2_with fail
    go_ret
    exact ⟨rfl, 0, rfl⟩
end Go.Proofs.Ytlgngnkaiidbeaa
