/- Plain laws of records: what any bytes are decoded as. -/
import Derived.Test.YtanlelignljbiaaPlainRec
set_option maxRecDepth 100000
namespace Go.Proofs.Ytanlelignljbiaa
open Go.RowKit

theorem take_read {bs : List UInt8} {k : Nat} {er : Int} {n : Nat} (h : (takeC bs k er n).2.2 = 0) (hk : k ≤ bs.length) :
    er = 0 ∧ (takeC bs k er n).2.1 = k + n ∧ k + n ≤ bs.length ∧ (takeC bs k er n).1.length = n ∧ bs.drop k = (takeC bs k er n).1 ++ bs.drop (k + n) := by
  unfold takeC at *
  split at h
  · rename_i he; exact absurd h he
  · rename_i he
    have he' : er = 0 := by simpa using he
    split at h
    · exact absurd h (by show (1 : Int) ≠ 0; decide)
    · rename_i hn
      rw [if_neg he, if_neg hn]
      refine ⟨he', rfl, by omega, by simp; omega, ?_⟩
      show _ = (bs.drop k).take n ++ _
      rw [← List.drop_drop, List.take_append_drop]
theorem num_read {bs : List UInt8} {k : Nat} {er : Int} {w : Nat} (hw : okW w = true) (h : (numC bs k er w).2.2 = 0) (hk : k ≤ bs.length) :
    er = 0 ∧ (numC bs k er w).2.1 = k + w ∧ k + w ≤ bs.length ∧ (numC bs k er w).1 < 256 ^ w ∧ bs.drop k = leB w (numC bs k er w).1 ++ bs.drop (k + w) := by
  have he : numC bs k er w = (leN (takeC bs k er w).1, (takeC bs k er w).2) := by unfold numC; rw [if_pos hw, Int.toNat_natCast]
  rw [he] at h ⊢
  obtain ⟨h1, h2, h3, h4, h5⟩ := take_read h hk
  refine ⟨h1, h2, h3, ?_, ?_⟩
  · have := leN_lt (takeC bs k er w).1
    rwa [h4] at this
  · have := leB_leN (takeC bs k er w).1
    rw [h4] at this
    rw [this]
    exact h5
theorem text_read {bs : List UInt8} {k : Nat} {er : Int} {most : Nat} (h : (textC bs k er 1 most).2.2 = 0) (hk : k ≤ bs.length) :
    er = 0 ∧ (textC bs k er 1 most).1.length ≤ most ∧ (textC bs k er 1 most).1.length < 256 ∧ (textC bs k er 1 most).2.1 = k + 1 + (textC bs k er 1 most).1.length ∧ k + 1 + (textC bs k er 1 most).1.length ≤ bs.length ∧
      bs.drop k = leB 1 (textC bs k er 1 most).1.length ++ (textC bs k er 1 most).1 ++ bs.drop (k + 1 + (textC bs k er 1 most).1.length) := by
  unfold textC at *
  split at h
  · rename_i he; exact absurd h he
  · rename_i he
    have he' : (numC bs k er ((1 : Nat) : Int)).2.2 = 0 := by simpa using he
    obtain ⟨h1, h2, h3, h4, h5⟩ := num_read (w := 1) rfl he' hk
    split at h
    · exact absurd h (by show (2 : Int) ≠ 0; decide)
    · rename_i hm
      rw [if_neg he, if_neg hm]
      have hx : numC bs k er 1 = numC bs k er ((1 : Nat) : Int) := rfl
      rw [hx] at h hm ⊢
      rw [h2] at h ⊢
      generalize (numC bs k er ((1 : Nat) : Int)).1 = m at *
      obtain ⟨g1, g2, g3, g4, g5⟩ := take_read h h3
      rw [g4]
      refine ⟨h1, by omega, by omega, g2, g3, ?_⟩
      rw [List.append_assoc, ← g5, ← h5]
theorem take_er0 {bs : List UInt8} {k : Nat} {er : Int} {n : Nat} (h : (takeC bs k er n).2.2 = 0) : er = 0 := by
  by_cases he : er = 0
  · exact he
  · unfold takeC at h; rw [if_pos he] at h; exact h
theorem num_er0 {bs : List UInt8} {k : Nat} {er : Int} {w : Int} (h : (numC bs k er w).2.2 = 0) : er = 0 := by
  unfold numC at h; split at h
  · exact take_er0 h
  · exact h
theorem text_er0 {bs : List UInt8} {k : Nat} {er : Int} {w m : Int} (h : (textC bs k er w m).2.2 = 0) : er = 0 := by
  by_cases he : (numC bs k er w).2.2 = 0
  · exact num_er0 he
  · unfold textC at h; rw [if_pos he] at h; exact num_er0 h
theorem field_er0 {bs : List UInt8} {b : Bool} {o k : Nat} {er : Int} (h : (fieldC bs b o k er).2.2 = 0) : er = 0 := by
  unfold fieldC at h; split at h
  · exact num_er0 h
  · exact h
/-- the errors of a cursor -/
def cerrs (e : Int) : Prop := e = 0 ∨ e = 1 ∨ e = 2
theorem take_errs {bs : List UInt8} {k : Nat} {er : Int} {n : Nat} (h : cerrs er) : cerrs (takeC bs k er n).2.2 := by
  unfold takeC; split
  · exact h
  · split
    · exact .inr (.inl rfl)
    · exact .inl rfl
theorem num_errs {bs : List UInt8} {k : Nat} {er : Int} {w : Int} (h : cerrs er) : cerrs (numC bs k er w).2.2 := by
  unfold numC; split
  · exact take_errs h
  · exact h
theorem text_errs {bs : List UInt8} {k : Nat} {er : Int} {w m : Int} (h : cerrs er) : cerrs (textC bs k er w m).2.2 := by
  unfold textC; split
  · exact num_errs h
  · split
    · exact .inr (.inr rfl)
    · exact take_errs (.inl rfl)
theorem field_errs {bs : List UInt8} {b : Bool} {o k : Nat} {er : Int} (h : cerrs er) : cerrs (fieldC bs b o k er).2.2 := by
  unfold fieldC; split
  · exact num_errs h
  · exact h
theorem done_errs {bs : List UInt8} {k : Nat} {er : Int} (h : cerrs er) : cerrs (doneC bs k er) := by
  unfold doneC; split
  · exact h
  · split
    · exact .inr (.inr rfl)
    · exact .inl rfl
theorem take_stays {bs : List UInt8} {k : Nat} {n : Nat} : takeC bs k 1 n = ([], k, 1) := by unfold takeC; rw [if_pos (by decide)]
theorem num_stays {bs : List UInt8} {k : Nat} {w : Int} : (numC bs k 1 w).2.2 = 1 := by
  unfold numC; split
  · rw [take_stays]
  · rfl
theorem text_stays {bs : List UInt8} {k : Nat} {w m : Int} : (textC bs k 1 w m).2.2 = 1 := by
  unfold textC; rw [num_stays, if_pos (by decide)]; exact num_stays
theorem field_stays {bs : List UInt8} {b : Bool} {o k : Nat} : (fieldC bs b o k 1).2.2 = 1 := by
  unfold fieldC; split
  · exact num_stays
  · rfl
theorem done_zero {bs : List UInt8} {k : Nat} {er : Int} (h : doneC bs k er = 0) : er = 0 ∧ bs.length ≤ k := by
  unfold doneC at h
  split at h
  · rename_i he; exact absurd h he
  · rename_i he
    split at h
    · exact absurd h (by decide)
    · exact ⟨by simpa using he, by omega⟩
theorem field_read {bs : List UInt8} {b : Bool} {k : Nat} {er : Int} (h : (fieldC bs b 0 k er).2.2 = 0) (hk : k ≤ bs.length) :
    er = 0 ∧ (fieldC bs b 0 k er).2.1 ≤ bs.length ∧ (fieldC bs b 0 k er).1 < 18446744073709551616 ∧ bs.drop k = (if b = true then leB 8 (fieldC bs b 0 k er).1 else []) ++ bs.drop (fieldC bs b 0 k er).2.1 := by
  unfold fieldC at *
  cases b with
  | false => simp at h ⊢; exact ⟨h, hk⟩
  | true =>
    simp only [if_true] at h ⊢
    obtain ⟨h1, h2, h3, h4, h5⟩ := num_read (w := 8) rfl h hk
    exact ⟨h1, by have : (numC bs k er 8).2.1 = k + 8 := h2; omega, h4, by
      have h2' : (numC bs k er 8).2.1 = k + 8 := h2
      rw [h2']; exact h5⟩
theorem each_read {bs : List UInt8} {kd : Int} {k : Nat} {er : Int} (h : (eachC bs kd 0 0 0 k er).2.2 = 0) (hk : k ≤ bs.length) :
    er = 0 ∧ (eachC bs kd 0 0 0 k er).2.1 ≤ bs.length ∧ (eachC bs kd 0 0 0 k er).1.1 < 18446744073709551616 ∧ (eachC bs kd 0 0 0 k er).1.2.1 < 18446744073709551616 ∧ (eachC bs kd 0 0 0 k er).1.2.2 < 18446744073709551616 ∧
      bs.drop k = fldB kd (eachC bs kd 0 0 0 k er).1.1 (eachC bs kd 0 0 0 k er).1.2.1 (eachC bs kd 0 0 0 k er).1.2.2 ++ bs.drop (eachC bs kd 0 0 0 k er).2.1 := by
  unfold eachC fldB at *
  dsimp only at *
  have hb2 := field_er0 h
  have ha2 := field_er0 hb2
  obtain ⟨a1, a2, a3, a4⟩ := field_read ha2 hk
  obtain ⟨b1, b2, b3, b4⟩ := field_read hb2 a2
  obtain ⟨c1, c2, c3, c4⟩ := field_read h b2
  refine ⟨a1, c2, a3, b3, c3, ?_⟩
  rw [List.append_assoc, List.append_assoc, ← c4, ← b4, ← a4]

/-- the first byte's read -/
theorem num_first (bs : List UInt8) : numC bs 0 0 1 = match bs with | [] => (0, 0, 1) | b :: _ => (b.toNat, 1, 0) := by
  cases bs with
  | nil => rfl
  | cons b l => simp [numC, okW, takeC, leN]

theorem recE_ne5 {seq : Nat} {k : Int} {ten : ByteArray} {lease n bits : Nat} (h : knownB k = true) : recE seq k ten lease n bits ≠ 5 := by
  unfold recE
  rw [h]
  simp only [Bool.true_eq_false, if_false]
  repeat' split
  all_goals decide

theorem dec_law (bs : List UInt8) :
    (∃ (seq kn : Nat) (ten : ByteArray) (lease n bits : Nat), decR bs = (recV seq kn ten lease n bits, 0) ∧ recE seq kn ten lease n bits = 0 ∧ seq < 18446744073709551616 ∧ kn ≤ 5 ∧ ten.size ≤ 16 ∧ lease < 18446744073709551616 ∧ n < 18446744073709551616 ∧ bits < 18446744073709551616 ∧ bytesP seq kn ten lease n bits = bs) ∨
    (∃ e : Int, decR bs = (zrec, e) ∧ e ≠ 0 ∧ (bs = [] → e = 1) ∧ (e = 5 ↔ ∃ b l, bs = b :: l ∧ knownB (b.toNat : Int) = false)) := by
  have hN : okW 8 = true := rfl
  by_cases hA : (numC bs 0 0 1).2.2 = 0 ∧ knownB ((numC bs 0 0 1).1 : Int) = false
  · right
    refine ⟨5, if_pos hA, by decide, ?_, ⟨fun _ => ?_, fun _ => rfl⟩⟩
    · rintro rfl; exact absurd hA.1 (by decide)
    · cases bs with
      | nil => exact absurd hA.1 (by decide)
      | cons b l => exact ⟨b, l, rfl, by rw [num_first] at hA; exact hA.2⟩
  · have hno : ∀ e : Int, e ≠ 5 → (e = 5 ↔ ∃ b l, bs = b :: l ∧ knownB (b.toNat : Int) = false) := by
      intro e he
      refine ⟨fun h => absurd h he, ?_⟩
      rintro ⟨b, l, rfl, hk⟩
      exact absurd ⟨by rw [num_first], by rw [num_first]; exact hk⟩ hA
    have hD : decR bs = if doneC bs (readC bs).2.1 (readC bs).2.2 ≠ 0 then (zrec, doneC bs (readC bs).2.1 (readC bs).2.2) else if recE (readC bs).1.2.1 ((readC bs).1.1 : Int) ⟨(readC bs).1.2.2.1.toArray⟩ (readC bs).1.2.2.2.1 (readC bs).1.2.2.2.2.1 (readC bs).1.2.2.2.2.2 ≠ 0 then (zrec, recE (readC bs).1.2.1 ((readC bs).1.1 : Int) ⟨(readC bs).1.2.2.1.toArray⟩ (readC bs).1.2.2.2.1 (readC bs).1.2.2.2.2.1 (readC bs).1.2.2.2.2.2) else (recV (readC bs).1.2.1 ((readC bs).1.1 : Int) ⟨(readC bs).1.2.2.1.toArray⟩ (readC bs).1.2.2.2.1 (readC bs).1.2.2.2.2.1 (readC bs).1.2.2.2.2.2, 0) := if_neg hA
    by_cases hdn : doneC bs (readC bs).2.1 (readC bs).2.2 = 0
    · rw [if_neg (by simpa using hdn)] at hD
      obtain ⟨d1, d2⟩ := done_zero hdn
      cases bs with
      | nil => exact absurd hdn (by decide +kernel)
      | cons b l =>
        have hf : numC (b :: l) 0 0 1 = (b.toNat, 1, 0) := num_first _
        have hkn : knownB (b.toNat : Int) = true := by
          cases hq : knownB (b.toNat : Int) with
          | true => rfl
          | false => exact absurd ⟨by rw [hf], by rw [hf]; exact hq⟩ hA
        have r1 : readC (b :: l) = ((b.toNat, (numC (b :: l) 1 0 8).1, (textC (b :: l) (numC (b :: l) 1 0 8).2.1 (numC (b :: l) 1 0 8).2.2 1 16).1, (eachC (b :: l) (b.toNat : Int) 0 0 0 (textC (b :: l) (numC (b :: l) 1 0 8).2.1 (numC (b :: l) 1 0 8).2.2 1 16).2.1 (textC (b :: l) (numC (b :: l) 1 0 8).2.1 (numC (b :: l) 1 0 8).2.2 1 16).2.2).1), (eachC (b :: l) (b.toNat : Int) 0 0 0 (textC (b :: l) (numC (b :: l) 1 0 8).2.1 (numC (b :: l) 1 0 8).2.2 1 16).2.1 (textC (b :: l) (numC (b :: l) 1 0 8).2.1 (numC (b :: l) 1 0 8).2.2 1 16).2.2).2) := by
          unfold readC; simp only [hf]
        have t0 : (textC (b :: l) (numC (b :: l) 1 0 8).2.1 (numC (b :: l) 1 0 8).2.2 1 16).2.2 = 0 := by
          rw [r1] at d1
          exact field_er0 (field_er0 (field_er0 d1))
        have s0 := text_er0 t0
        obtain ⟨_, s2, s3, s4, s5⟩ := num_read (w := 8) rfl s0 (show 1 ≤ (b :: l).length by simp)
        have s2' : (numC (b :: l) 1 0 8).2.1 = 9 := s2
        rw [s2', show (numC (b :: l) 1 0 8).2.2 = 0 from s0] at r1 t0
        generalize hS : (numC (b :: l) 1 0 8).1 = S at *
        obtain ⟨_, t2, t3, t4, t5, t6⟩ := text_read (most := 16) t0 s3
        have t4' : (textC (b :: l) 9 0 1 16).2.1 = 9 + 1 + (textC (b :: l) 9 0 1 16).1.length := t4
        rw [t4', show (textC (b :: l) 9 0 1 16).2.2 = 0 from t0] at r1
        have e0 : (eachC (b :: l) (b.toNat : Int) 0 0 0 (9 + 1 + (textC (b :: l) 9 0 1 16).1.length) 0).2.2 = 0 := by rw [r1] at d1; exact d1
        obtain ⟨_, e2, e3, e4, e5, e6⟩ := each_read e0 t5
        rw [r1] at d2
        have d2' : (b :: l).length ≤ (eachC (b :: l) (b.toNat : Int) 0 0 0 (9 + 1 + (textC (b :: l) 9 0 1 16).1.length) 0).2.1 := d2
        rw [List.drop_of_length_le d2', List.append_nil] at e6
        have s5' : l = leB 8 S ++ (b :: l).drop 9 := by
          have h5 : (b :: l).drop 1 = leB 8 S ++ (b :: l).drop 9 := s5
          exact h5
        have t6' : (b :: l).drop 9 = leB 1 (textC (b :: l) 9 0 1 16).1.length ++ (textC (b :: l) 9 0 1 16).1 ++ (b :: l).drop (9 + 1 + (textC (b :: l) 9 0 1 16).1.length) := t6
        have t2' : (textC (b :: l) 9 0 1 16).1.length ≤ 16 := t2
        rw [r1] at hD
        dsimp only at hD
        generalize hEe : (eachC (b :: l) (b.toNat : Int) 0 0 0 (9 + 1 + (textC (b :: l) 9 0 1 16).1.length) 0).1 = F at *
        generalize hTt : (textC (b :: l) 9 0 1 16).1 = T at *
        obtain ⟨f1, f2, f3⟩ := F
        dsimp only at hD e3 e4 e5 e6
        by_cases hE : recE S (b.toNat : Int) ⟨T.toArray⟩ f1 f2 f3 = 0
        · left
          rw [if_neg (by simpa using hE)] at hD
          have hk5 : b.toNat ≤ 5 := by
            simp only [knownB, Bool.and_eq_true, decide_eq_true_eq] at hkn
            omega
          have hsz : (⟨T.toArray⟩ : ByteArray).size = T.length := rfl
          refine ⟨S, b.toNat, ⟨T.toArray⟩, f1, f2, f3, hD, hE, s4, hk5, by rw [hsz]; exact t2', e3, e4, e5, ?_⟩
          rw [bytesP_eq, hsz]
          have hb1 : leB 1 b.toNat = [b] := by simp [leB]
          rw [hb1]
          conv => rhs; rw [s5', t6', e6]
          simp
        · right
          rw [if_pos (by simpa using hE)] at hD
          exact ⟨_, hD, hE, (fun h => by cases h), hno _ (recE_ne5 hkn)⟩
    · right
      rw [if_pos hdn] at hD
      refine ⟨_, hD, hdn, ?_, hno _ ?_⟩
      · rintro rfl; decide +kernel
      · have : cerrs (doneC bs (readC bs).2.1 (readC bs).2.2) := done_errs (field_errs (field_errs (field_errs (text_errs (num_errs (num_errs (.inl rfl)))))))
        rcases this with h | h | h <;> rw [h] <;> decide
end Go.Proofs.Ytanlelignljbiaa
