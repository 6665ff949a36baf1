/- Plain laws of frames' bytes: what is decoded has these bytes; how bytes that are none are told. -/
import Derived.Test.YtlgngnkaiidbeaaPlainWire
set_option maxRecDepth 100000
set_option linter.unusedVariables false
set_option linter.unusedSimpArgs false
namespace Go.Proofs.Ytlgngnkaiidbeaa
open Go.RowKit

theorem num_inv {bs : List UInt8} {k w x k' : Nat} {er : Int} (hw : w = 1 ∨ w = 2) (h : numC bs k er w = (x, k', 0)) : er = 0 ∧ k' = k + w ∧ k' ≤ bs.length ∧ bs.drop k = leB w x ++ bs.drop k' := by
  rw [num_take bs k er w hw] at h
  unfold takeC at h
  by_cases he : er ≠ 0
  · rw [if_pos he] at h
    simp at h
    exact absurd h.2.2 he
  · rw [if_neg he] at h
    by_cases hl : bs.length - k < w
    · rw [if_pos hl] at h
      simp at h
    · rw [if_neg hl] at h
      simp at h
      have hlen : ((bs.drop k).take w).length = w := by simp; omega
      refine ⟨by simpa using he, by omega, by omega, ?_⟩
      rw [← h.1, ← h.2]
      have := leB_leN ((bs.drop k).take w)
      rw [hlen] at this
      rw [this, ← List.drop_drop, List.take_append_drop]
theorem fld_inv {bs : List UInt8} {k w x k' : Nat} {er : Int} {has : Bool} (hw : w = 1 ∨ w = 2) (h : fldC bs has w k er = (x, k', 0)) (hk : k ≤ bs.length) : er = 0 ∧ k' ≤ bs.length ∧ bs.drop k = opt has (leB w x) ++ bs.drop k' := by
  cases has
  · simp [fldC] at h
    obtain ⟨_, rfl, rfl⟩ := h
    exact ⟨rfl, hk, by simp [opt]⟩
  · obtain ⟨h1, _, h3, h4⟩ := num_inv hw (show numC bs k er w = _ by simpa [fldC] using h)
    exact ⟨h1, h3, by simpa [opt] using h4⟩
theorem take_inv {bs t : List UInt8} {k n k' : Nat} {er : Int} (h : takeC bs k er n = (t, k', 0)) (hk : k ≤ bs.length) : er = 0 ∧ k' ≤ bs.length ∧ t.length = n ∧ bs.drop k = t ++ bs.drop k' := by
  unfold takeC at h
  by_cases he : er ≠ 0
  · rw [if_pos he] at h
    simp at h
    exact absurd h.2.2 he
  · rw [if_neg he] at h
    by_cases hl : bs.length - k < n
    · rw [if_pos hl] at h; simp at h
    · rw [if_neg hl] at h
      simp at h
      obtain ⟨rfl, rfl⟩ := h
      exact ⟨by simpa using he, by omega, by simp; omega, by rw [← List.drop_drop, List.take_append_drop]⟩
theorem txt_inv {bs t : List UInt8} {k k' : Nat} {er : Int} {has : Bool} (h : txtC bs has k er = (t, k', 0)) (hk : k ≤ bs.length) : er = 0 ∧ k' ≤ bs.length ∧ bs.drop k = opt has (leB 1 t.length) ++ (t ++ bs.drop k') := by
  cases has
  · simp [txtC] at h
    obtain ⟨rfl, rfl, rfl⟩ := h
    exact ⟨rfl, hk, by simp [opt]⟩
  · have h : textC bs k er 1 255 = (t, k', 0) := by simpa [txtC] using h
    unfold textC at h
    obtain ⟨x, hx⟩ : ∃ x, numC bs k er 1 = x := ⟨_, rfl⟩
    obtain ⟨x, k1, e1⟩ := x
    rw [hx] at h
    dsimp only at h
    by_cases he : e1 ≠ 0
    · rw [if_pos he] at h
      simp at h
      exact absurd h.2.2 he
    · have he0 : e1 = 0 := by simpa using he
      subst he0
      rw [if_neg he] at h
      obtain ⟨h1, h2, h3, h4⟩ := num_inv (w := 1) (.inl rfl) hx
      by_cases hm : (255 : Int) < 0 ∨ 255 < (x : Int)
      · rw [if_pos hm] at h
        simp at h
      · rw [if_neg hm] at h
        obtain ⟨_, q2, q3, q4⟩ := take_inv h h3
        refine ⟨h1, q2, ?_⟩
        rw [h4, q4, q3]
        simp [opt]
theorem dat_inv {bs d : List UInt8} {k k' : Nat} {er : Int} {has : Bool} (h : datC bs has k 0 = (d, k', er)) (hd : doneC bs k' er = 0) : bs.drop k = d := by
  have hd2 : er = 0 ∧ bs.length ≤ k' := by
    unfold doneC at hd
    split at hd
    · rename_i h1; exact absurd hd h1
    · rename_i h1
      split at hd
      · cases hd
      · exact ⟨by simpa using h1, by omega⟩
  cases has
  · simp [datC] at h
    obtain ⟨rfl, rfl, _⟩ := h
    exact List.drop_eq_nil_of_le hd2.2
  · have h : bytesC bs k 0 ((bs.length - k : Nat) : Int) = (d, k', er) := by simpa [datC] using h
    unfold bytesC at h
    split at h
    · rename_i hz
      simp at h
      obtain ⟨rfl, rfl, _⟩ := h
      exact List.drop_eq_nil_of_le (by omega)
    · rw [takeC, if_neg (by simp), if_neg (by simp), Int.toNat_natCast] at h
      simp at h
      rw [← h.1, List.take_of_length_le (by simp)]

/-- what is decoded may be, and has these bytes -/
theorem enc_dec (bs : List UInt8) (k s n : Nat) (t d : List UInt8) (h : decW bs = ((k, s, n, t, d), 0)) : wErr k s n t d.length = 0 ∧ wireB k s n t d = bs := by
  unfold decW at h
  obtain ⟨q, hq⟩ : ∃ q, numC bs 0 0 2 = q := ⟨_, rfl⟩
  obtain ⟨n0, k0, e0⟩ := q
  simp only [hq] at h
  split at h
  · simp at h
  rename_i g1
  split at h
  · simp at h
  rename_i g2
  split at h
  · simp at h
  rename_i g3
  split at h
  · simp at h
  obtain rfl : e0 = 0 := by simpa using g1
  obtain ⟨_, i2, i3, i4⟩ := num_inv (w := 2) (.inr rfl) hq
  unfold decF at h
  obtain ⟨a, ha⟩ : ∃ a, numC bs k0 0 1 = a := ⟨_, rfl⟩
  obtain ⟨kd, k1, e1⟩ := a
  simp only [ha] at h
  split at h
  · simp at h
  obtain ⟨s', hs⟩ : ∃ a, fldC bs (fS kd) 1 k1 e1 = a := ⟨_, rfl⟩
  obtain ⟨s1, k2, e2⟩ := s'
  simp only [hs] at h
  obtain ⟨n', hn⟩ : ∃ a, fldC bs (fN kd) 2 k2 e2 = a := ⟨_, rfl⟩
  obtain ⟨n1, k3, e3⟩ := n'
  simp only [hn] at h
  obtain ⟨t', ht⟩ : ∃ a, txtC bs (fT kd) k3 e3 = a := ⟨_, rfl⟩
  obtain ⟨t1, k4, e4⟩ := t'
  simp only [ht] at h
  split at h
  · simp at h
  rename_i g5
  obtain ⟨d', hd⟩ : ∃ a, datC bs (fD kd) k4 e4 = a := ⟨_, rfl⟩
  obtain ⟨d1, k5, e5⟩ := d'
  simp only [hd] at h
  split at h
  · simp at h
  rename_i g6
  split at h
  · rename_i g7
    simp at h
    exact absurd h.2 g7
  rename_i g7
  simp only [Prod.mk.injEq, and_true] at h
  obtain ⟨rfl, rfl, rfl, rfl, rfl⟩ := h
  obtain rfl : e4 = 0 := by simpa using g5
  have g6 : doneC bs k5 e5 = 0 := by simpa using g6
  refine ⟨by simpa using g7, ?_⟩
  -- the errors on the way are none: a later one keeps an earlier one
  have fe : ∀ (has : Bool) (w k : Nat) (er : Int), er ≠ 0 → (fldC bs has w k er).2.2 = er := by
    intro has w k er he
    unfold fldC
    split
    · unfold numC
      split
      · unfold takeC; rw [if_pos he]
      · rfl
    · rfl
  have h3' : e3 = 0 := by
    unfold txtC at ht
    split at ht
    · unfold textC at ht
      by_cases hz : e3 = 0
      · exact hz
      · have hnum : (numC bs k3 e3 1).2.2 = e3 := by
          rw [show numC bs k3 e3 1 = (leN (takeC bs k3 e3 1).1, (takeC bs k3 e3 1).2) from rfl, takeC, if_pos hz]
        rw [if_pos (by rw [hnum]; exact hz)] at ht
        have h9 := congrArg (·.2.2) ht
        dsimp only at h9
        rw [hnum] at h9
        exact h9
    · simp at ht; exact ht.2.2
  subst h3'
  have h2' : e2 = 0 := by
    by_cases hz : e2 = 0
    · exact hz
    · have := fe (fN kd) 2 k2 e2 hz
      have h9 := congrArg (·.2.2) hn
      dsimp only at h9
      exact (this.symm.trans h9).trans rfl
  subst h2'
  have h1' : e1 = 0 := by
    by_cases hz : e1 = 0
    · exact hz
    · have := fe (fS kd) 1 k1 e1 hz
      have h9 := congrArg (·.2.2) hs
      dsimp only at h9
      exact (this.symm.trans h9).trans rfl
  subst h1'
  obtain ⟨_, j2, j3, j4⟩ := num_inv (w := 1) (.inl rfl) ha
  obtain ⟨_, l2, l3⟩ := fld_inv (w := 1) (.inl rfl) hs j3
  obtain ⟨_, m2, m3⟩ := fld_inv (w := 2) (.inr rfl) hn l2
  obtain ⟨_, o2, o3⟩ := txt_inv ht m2
  have p1 := dat_inv hd g6
  have hbody : bs.drop k0 = wBody kd s1 n1 t1 d1 := by rw [wBody_eq, j4, l3, m3, o3, p1]
  rw [wireB_eq, ← hbody]
  have hlen : (bs.drop k0).length = n0 := by rw [List.length_drop]; omega
  rw [hlen]
  rw [List.drop_zero] at i4
  exact i4.symm

/-- how bytes that are too few, too many, of no kind are told -/
theorem dec_few (bs : List UInt8) (h : bs.length < 2 ∨ bs.length - 2 < leN (bs.take 2)) : decW bs = (zFr, 1) := by
  by_cases h2 : bs.length < 2
  · have : numC bs 0 0 2 = (0, 0, 1) := by
      rw [show numC bs 0 0 2 = (leN (takeC bs 0 0 2).1, (takeC bs 0 0 2).2) from rfl, takeC, if_neg (by simp), if_pos (by omega)]
      rfl
    unfold decW
    simp only [this]
    simp
  · unfold decW
    simp only [decW_head bs (by omega)]
    rw [if_neg (by simp), if_pos (by omega)]
theorem dec_many (bs : List UInt8) (h2 : 2 ≤ bs.length) (h : leN (bs.take 2) < bs.length - 2) : decW bs = (zFr, 2) := by
  unfold decW
  simp only [decW_head bs h2]
  rw [if_neg (by simp), if_neg (by omega), if_pos (by omega)]
theorem dec_kind (bs : List UInt8) (h2 : 2 ≤ bs.length) (h : leN (bs.take 2) = bs.length - 2) (h3 : 2 < bs.length) (hk : (bs[2]'h3).toNat < 1 ∨ 8 < (bs[2]'h3).toNat) : decW bs = (zFr, 5) := by
  unfold decW
  simp only [decW_head bs h2]
  rw [if_neg (by simp), if_neg (by omega), if_neg (by omega), if_neg (by omega)]
  have hn : numC bs 2 0 1 = ((bs[2]'h3).toNat, 3, 0) := by
    rw [show numC bs 2 0 1 = (leN (takeC bs 2 0 1).1, (takeC bs 2 0 1).2) from rfl, takeC, if_neg (by simp), if_neg (by omega)]
    have hd : (bs.drop 2).take 1 = [bs[2]'h3] := by rw [List.drop_eq_getElem_cons h3]; rfl
    rw [hd]
    simp [leN]
  unfold decF
  simp only [hn]
  rw [if_pos (by simp [knownF]; omega)]
/-- an error tells of the frame of zeros -/
theorem dec_zero (bs : List UInt8) (h : (decW bs).2 ≠ 0) : (decW bs).1 = zFr := by
  revert h
  unfold decW
  simp only []
  split
  · simp
  split
  · simp
  split
  · simp
  split
  · simp
  unfold decF
  simp only []
  split
  · simp
  split
  · simp
  split
  · simp
  split
  · simp
  · simp
end Go.Proofs.Ytlgngnkaiidbeaa
