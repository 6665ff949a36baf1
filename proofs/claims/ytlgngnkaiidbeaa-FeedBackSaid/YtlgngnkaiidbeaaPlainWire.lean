/- Plain laws of frames' bytes: they lead back, and come from one frame. -/
import Derived.Test.YtlgngnkaiidbeaaWDec3
set_option maxRecDepth 100000
set_option linter.unusedVariables false
set_option linter.unusedSimpArgs false
namespace Go.Proofs.Ytlgngnkaiidbeaa
open Go.RowKit

def opt (has : Bool) (l : List UInt8) : List UInt8 := if has = true then l else []
theorem addW_opt (has : Bool) (bs : List UInt8) (x : Nat) : addW has bs 1 x = bs ++ opt has (leB 1 x) ∧ addW has bs 2 x = bs ++ opt has (leB 2 x) := by
  cases has <;> simp [addW, opt, putW, okW]
theorem wBody_eq (k s n : Nat) (t d : List UInt8) : wBody k s n t d = leB 1 k ++ (opt (fS k) (leB 1 s) ++ (opt (fN k) (leB 2 n) ++ (opt (fT k) (leB 1 t.length) ++ (t ++ d)))) := by
  unfold wBody
  rw [(addW_opt _ _ _).1, (addW_opt _ _ _).2, (addW_opt _ _ _).1, show putW [] 1 k = [] ++ leB 1 k from rfl]
  simp
theorem wireB_eq (k s n : Nat) (t d : List UInt8) : wireB k s n t d = leB 2 (wBody k s n t d).length ++ wBody k s n t d := rfl

theorem num_take (bs : List UInt8) (k : Nat) (er : Int) (w : Nat) (hw : w = 1 ∨ w = 2) : numC bs k er w = (leN (takeC bs k er w).1, (takeC bs k er w).2) := by
  rcases hw with rfl | rfl <;> rfl
theorem num_at {bs r : List UInt8} {k w x : Nat} (hw : w = 1 ∨ w = 2) (h : bs.drop k = leB w x ++ r) (hx : x < 256 ^ w) : numC bs k 0 w = (x, k + w, 0) ∧ bs.drop (k + w) = r := by
  have hl : bs.length - k = w + r.length := by have := congrArg List.length h; rw [List.length_drop, List.length_append, leB_length] at this; exact this
  have ht : takeC bs k 0 w = (leB w x, k + w, 0) := by
    rw [takeC, if_neg (by simp), if_neg (by omega), h, List.take_left' (leB_length w x)]
  refine ⟨?_, ?_⟩
  · rw [num_take bs k 0 w hw, ht, leN_leB, Nat.mod_eq_of_lt hx]
  · rw [← List.drop_drop, h, List.drop_left' (leB_length w x)]
theorem fld_at {bs r : List UInt8} {k w x : Nat} {has : Bool} (hw : w = 1 ∨ w = 2) (h : bs.drop k = opt has (leB w x) ++ r) (hx : x < 256 ^ w) (h0 : has = false → x = 0) :
    ∃ k', fldC bs has w k 0 = (x, k', 0) ∧ bs.drop k' = r := by
  cases has
  · exact ⟨k, by simp [fldC, h0 rfl], by simpa [opt] using h⟩
  · obtain ⟨h1, h2⟩ := num_at hw (by simpa [opt] using h) hx
    exact ⟨k + w, by simpa [fldC] using h1, h2⟩
theorem txt_at {bs r t : List UInt8} {k : Nat} {has : Bool} (h : bs.drop k = opt has (leB 1 t.length) ++ (t ++ r)) (ht : t.length ≤ 255) (h0 : has = false → t = []) (hk : k ≤ bs.length) :
    ∃ k', txtC bs has k 0 = (t, k', 0) ∧ bs.drop k' = r ∧ k' ≤ bs.length := by
  cases has
  · have := h0 rfl
    subst this
    exact ⟨k, by simp [txtC], by simpa [opt] using h, hk⟩
  · obtain ⟨h1, h2⟩ := num_at (w := 1) (.inl rfl) (show bs.drop k = leB 1 t.length ++ (t ++ r) by simpa [opt] using h) (by omega)
    have h1' : numC bs k 0 1 = (t.length, k + 1, 0) := h1
    have hl : bs.length - (k + 1) = t.length + r.length := by have := congrArg List.length h2; rw [List.length_drop, List.length_append] at this; exact this
    refine ⟨k + 1 + t.length, ?_, ?_, ?_⟩
    · simp only [txtC, if_true, textC, h1']
      rw [if_neg (by simp), if_neg (by omega), takeC, if_neg (by simp), if_neg (by omega), h2, List.take_left' rfl]
    · rw [← List.drop_drop, h2, List.drop_left' rfl]
    · have : k + 1 ≤ bs.length := by
        have := congrArg List.length h
        simp [opt, leB_length] at this
        omega
      omega
theorem dat_at {bs d : List UInt8} {k : Nat} {has : Bool} (h : bs.drop k = d) (h0 : has = false → d = []) (hk : k ≤ bs.length) :
    ∃ k', datC bs has k 0 = (d, k', 0) ∧ doneC bs k' 0 = 0 := by
  have hl := congrArg List.length h
  rw [List.length_drop] at hl
  cases has
  · have := h0 rfl
    subst this
    exact ⟨k, by simp [datC], by simp at hl; simp [doneC]; omega⟩
  · by_cases hz : bs.length - k = 0
    · refine ⟨k, ?_, by simp [doneC]; omega⟩
      have : d = [] := List.eq_nil_of_length_eq_zero (by omega)
      subst this
      simp [datC, bytesC]
      omega
    · refine ⟨bs.length, ?_, by simp [doneC]⟩
      simp only [datC, if_true, bytesC]
      rw [if_neg (by omega), takeC, if_neg (by simp), if_neg (by simp), Int.toNat_natCast, h, List.take_of_length_le (by omega)]
      congr 2
      omega

/-- what a frame that may be has -/
theorem wErr_zero {k s n : Nat} {t : List UInt8} {dl : Nat} (h : wErr k s n t dl = 0) :
    knownF k = true ∧ (fS k = false → s = 0) ∧ (fN k = false → n = 0) ∧ (fT k = false → t = []) ∧ (fD k = false → dl = 0) ∧ s ≤ 255 ∧ n ≤ 65535 ∧ t.length ≤ 24 ∧ dl ≤ 64 ∧ 1 ≤ k ∧ k ≤ 8 := by
  unfold wErr at h
  split at h
  · exact absurd h (by decide)
  rename_i h1
  split at h
  · exact absurd h (by decide)
  rename_i h2
  split at h
  · exact absurd h (by decide)
  rename_i h3
  split at h
  · exact absurd h (by decide)
  rename_i h4
  split at h
  · exact absurd h (by decide)
  rename_i h5
  have hk : knownF k = true := by simpa using h1
  have hk2 : (1 : Int) ≤ k ∧ (k : Int) ≤ 8 := by simpa [knownF] using hk
  have h2 : wNum k s n = true := by simpa using h2
  have h3 : wTxt k t = true := by simpa using h3
  have hS : fS k = false → s = 0 := fun e => by
    rcases Nat.eq_zero_or_pos s with h | h
    · exact h
    · exact absurd (.inl ⟨e, by omega⟩) h5
  have hN : fN k = false → n = 0 := fun e => by
    rcases Nat.eq_zero_or_pos n with h | h
    · exact h
    · exact absurd (.inr (.inl ⟨e, by omega⟩)) h5
  have hT : fT k = false → t = [] := fun e => by
    by_cases ht : t = []
    · exact ht
    · exact absurd (.inr (.inr (.inl ⟨e, ht⟩))) h5
  have hD : fD k = false → dl = 0 := fun e => by
    rcases Nat.eq_zero_or_pos dl with h | h
    · exact h
    · exact absurd (.inr (.inr (.inr (.inl ⟨e, h⟩)))) h5
  have hnum : (fS k = true → s ≤ 255) ∧ (fN k = true → n ≤ 65535) := by
    unfold wNum at h2
    rw [Bool.and_eq_true] at h2
    refine ⟨fun e => ?_, fun e => ?_⟩
    · have := h2.1
      rw [e] at this
      simp at this
      omega
    · have := h2.2
      rw [e] at this
      simp at this
      split at this <;> omega
  refine ⟨hk, hS, hN, hT, hD, ?_, ?_, ?_, ?_, by omega, by omega⟩
  · cases e : fS k
    · rw [hS e]; omega
    · exact hnum.1 e
  · cases e : fN k
    · rw [hN e]; omega
    · exact hnum.2 e
  · cases e : fT k
    · rw [hT e]; simp
    · unfold wTxt at h3
      split at h3
      · simp [tenantB] at h3; omega
      · split at h3
        · simp [targetB] at h3; omega
        · rename_i a b
          simp [fT] at e
          omega
  · cases e : fD k
    · rw [hD e]; omega
    · have h4 : ¬ wMost k < dl := fun h => h4 ⟨e, h⟩
      unfold wMost at h4
      split at h4
      · omega
      · split at h4
        · omega
        · split at h4 <;> omega

theorem wBody_len {k s n : Nat} {t d : List UInt8} (ht : t.length ≤ 24) (hd : d.length ≤ 64) : (wBody k s n t d).length ≤ 100 ∧ 1 ≤ (wBody k s n t d).length := by
  rw [wBody_eq]
  simp only [List.length_append, leB_length]
  have : (opt (fS k) (leB 1 s)).length ≤ 1 := by unfold opt; split <;> simp [leB_length]
  have : (opt (fN k) (leB 2 n)).length ≤ 2 := by unfold opt; split <;> simp [leB_length]
  have : (opt (fT k) (leB 1 t.length)).length ≤ 1 := by unfold opt; split <;> simp [leB_length]
  omega

theorem decW_head (bs : List UInt8) (h : 2 ≤ bs.length) : numC bs 0 0 2 = (leN (bs.take 2), 2, 0) := by
  rw [show numC bs 0 0 2 = (leN (takeC bs 0 0 2).1, (takeC bs 0 0 2).2) from rfl, takeC, if_neg (by simp), if_neg (by omega)]
  rfl

/-- the bytes of a frame lead back to it -/
theorem dec_enc (k s n : Nat) (t d : List UInt8) (h : wErr k s n t d.length = 0) : decW (wireB k s n t d) = ((k, s, n, t, d), 0) := by
  obtain ⟨hk, hS, hN, hT, hD, hs, hn, ht, hd, hk1, hk8⟩ := wErr_zero h
  obtain ⟨hb1, hb2⟩ := wBody_len (k := k) (s := s) (n := n) ht hd
  have hB := wBody_eq k s n t d
  have hW : (wireB k s n t d).drop 0 = leB 2 (wBody k s n t d).length ++ wBody k s n t d := by rw [wireB_eq]; rfl
  generalize wBody k s n t d = B at *
  generalize wireB k s n t d = W at *
  have hlW : W.length = 2 + B.length := by have := congrArg List.length hW; rw [List.drop_zero, List.length_append, leB_length] at this; exact this
  obtain ⟨h1, h2⟩ := num_at (w := 2) (.inr rfl) hW (by omega)
  have h1' : numC W 0 0 2 = (B.length, 2, 0) := h1
  simp only [Nat.zero_add] at h2
  rw [hB] at h2
  obtain ⟨a1, a2⟩ := num_at (w := 1) (.inl rfl) h2 (by omega)
  have a1' : numC W 2 0 1 = (k, 3, 0) := a1
  obtain ⟨k2, b1, b2⟩ := fld_at (w := 1) (.inl rfl) a2 (by omega) hS
  obtain ⟨k3, c1, c2⟩ := fld_at (w := 2) (.inr rfl) b2 (by omega) hN
  have hk3 : k3 ≤ W.length := by
    have f1 : k2 ≤ 4 := by
      have := congrArg (·.2.1) b1
      cases hq : fS k
      · rw [hq] at this; simp [fldC] at this; omega
      · rw [hq] at b1 a2
        obtain ⟨q1, _⟩ := num_at (w := 1) (.inl rfl) (show W.drop 3 = leB 1 s ++ _ by simpa [opt] using a2) (by omega)
        have := (congrArg (·.2.1) (q1.symm.trans (by simpa [fldC] using b1)))
        simp at this; omega
    have l2 := congrArg List.length b2
    rw [List.length_drop, List.length_append] at l2
    cases hq : fN k
    · rw [hq] at c1; simp [fldC] at c1
      have l3 := congrArg List.length a2
      rw [List.length_drop, List.length_append] at l3
      cases hq2 : fS k
      · rw [hq2] at b1; simp [fldC] at b1; omega
      · rw [hq2] at l3 b1 a2
        obtain ⟨q1, _⟩ := num_at (w := 1) (.inl rfl) (show W.drop 3 = leB 1 s ++ _ by simpa [opt] using a2) (by omega)
        have := (congrArg (·.2.1) (q1.symm.trans (by simpa [fldC] using b1)))
        simp [opt, leB_length] at l3 this; omega
    · rw [hq] at c1 b2 l2
      obtain ⟨q1, _⟩ := num_at (w := 2) (.inr rfl) (show W.drop k2 = leB 2 n ++ _ by simpa [opt] using b2) (by omega)
      have := (congrArg (·.2.1) (q1.symm.trans (by simpa [fldC] using c1)))
      simp [opt, leB_length] at this l2; omega
  obtain ⟨k4, d1, d2, d3⟩ := txt_at c2 (by omega) hT hk3
  obtain ⟨k5, e1, e2⟩ := dat_at d2 (fun e => List.eq_nil_of_length_eq_zero (hD e)) d3
  have b1' : fldC W (fS k) 1 3 0 = (s, k2, 0) := b1
  have c1' : fldC W (fN k) 2 k2 0 = (n, k3, 0) := c1
  unfold decW
  simp only [h1']
  rw [if_neg (by simp), if_neg (by omega), if_neg (by omega), if_neg (by omega)]
  unfold decF
  simp only [a1', b1', c1', d1, e1, e2, hk, h]
  simp
end Go.Proofs.Ytlgngnkaiidbeaa
