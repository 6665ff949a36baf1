/- Plain laws of boxes: what stands one behind the other. -/
import Derived.Test.YtjbejaieihchmaaNext
import Derived.Test.YtjbejaieihchmaaBox
set_option maxRecDepth 100000
namespace Go.Proofs.Ytjbejaieihchmaa
open Go.RowKit

theorem box_seal (R : List UInt8) (h2 : 2 ≤ R.length) (h6 : leN (R.take 2) + 6 ≤ R.length) :
    boxB ((R.drop 2).take (leN (R.take 2))) = R.take (leN (R.take 2) + 6) ↔ isSeal (R.take (leN (R.take 2) + 6)) := by
  have hl2 : (R.take 2).length = 2 := by simp; omega
  have hlen : ((R.drop 2).take (leN (R.take 2))).length = leN (R.take 2) := by simp; omega
  have hb := leB_leN (R.take 2)
  rw [hl2] at hb
  generalize leN (R.take 2) = n at *
  have hL : (R.take (n + 6)).length = n + 6 := by simp; omega
  have hin : (R.take (n + 6)).take ((R.take (n + 6)).length - 4) = innerB ((R.drop 2).take n) := by
    rw [hL, List.take_take, innerB, hlen, hb, show min (n + 6 - 4) (n + 6) = 2 + n from by omega, List.take_add]
  rw [seal_iff, hin]
  exact ⟨fun h => ⟨by rw [hL]; omega, h⟩, fun h => h.2⟩

/-- the state behind n boxes, or where they end -/
def itB (b : List UInt8) : Nat → List (List UInt8) × Nat
  | 0 => ([], 0)
  | n + 1 => if (nextK b (itB b n).2).2.2 = 0 then ((itB b n).1 ++ [(nextK b (itB b n).2).1], (nextK b (itB b n).2).2.1.toNat) else itB b n
theorem itB_stop (b : List UInt8) (n : Nat) (h : (nextK b (itB b n).2).2.2 ≠ 0) (j : Nat) : itB b (n + j) = itB b n := by
  induction j with
  | zero => rfl
  | succ j ih => rw [← Nat.add_assoc, itB, ih, if_neg h]
theorem itB_same (b : List UInt8) (n m : Nat) (hn : (nextK b (itB b n).2).2.2 ≠ 0) (hm : (nextK b (itB b m).2).2.2 ≠ 0) : itB b n = itB b m := by
  rw [← itB_stop b n hn m, Nat.add_comm, itB_stop b m hm n]
/-- how a step goes on -/
theorem next_ok {b : List UInt8} {k : Nat} (h : (nextK b k).2.2 = 0) : ∃ n, 1 ≤ n ∧ n ≤ 4096 ∧ (nextK b k).2.1 = ((k + n + 6 : Nat) : Int) ∧ k + n + 6 ≤ b.length ∧ (nextK b k).1.length = n ∧ n = leN ((b.drop k).take 2) := by
  unfold nextK at *
  simp only [] at *
  split at h
  · exact absurd h (by decide)
  split at h
  · exact absurd h (by decide)
  split at h
  · exact absurd h (by decide)
  split at h
  · exact absurd h (by decide)
  split at h
  · rename_i a1 a2 a3 a4 a5
    rw [if_neg a1, if_neg a2, if_neg a3, if_neg a4, if_pos a5]
    rw [List.length_drop] at a4 a1
    exact ⟨_, by omega, by omega, rfl, by omega, by simp; omega, rfl⟩
  · exact absurd h (by decide)
theorem itB_le (b : List UInt8) (n : Nat) : (itB b n).2 ≤ b.length := by
  induction n with
  | zero => simp [itB]
  | succ n ih =>
    rw [itB]
    split
    · rename_i h
      obtain ⟨m, _, _, h3, h4, _⟩ := next_ok h
      simp only [h3]
      omega
    · exact ih
theorem itB_more (b : List UInt8) (n : Nat) (h : (nextK b (itB b n).2).2.2 = 0) : itB b (n + 1) = ((itB b n).1 ++ [(nextK b (itB b n).2).1], (nextK b (itB b n).2).2.1.toNat) := by rw [itB, if_pos h]
theorem itB_len (b : List UInt8) (n : Nat) : 7 * (itB b n).1.length ≤ (itB b n).2 := by
  induction n with
  | zero => simp [itB]
  | succ n ih =>
    rw [itB]
    split
    · rename_i h
      obtain ⟨m, _, _, h3, h4, _⟩ := next_ok h
      simp only [h3, List.length_append, List.length_cons, List.length_nil]
      omega
    · exact ih

theorem itB_mem (b : List UInt8) (n : Nat) (hb : b.length ≤ 1000000) : ∀ x ∈ (itB b n).1, x.length ≤ 1000000 := by
  induction n with
  | zero => simp [itB]
  | succ n ih =>
    rw [itB]
    split
    · rename_i h
      obtain ⟨m, _, hm, _, _, h5, _⟩ := next_ok h
      intro x hx
      simp only [List.mem_append, List.mem_singleton] at hx
      rcases hx with hx | rfl
      · exact ih x hx
      · omega
    · exact ih

/-- boxes one behind the other -/
def catB (l : List (List UInt8)) : List UInt8 := (l.map boxB).flatten
theorem catB_cons (x : List UInt8) (l : List (List UInt8)) : catB (x :: l) = boxB x ++ catB l := by simp [catB]
theorem catB_snoc (x : List UInt8) (l : List (List UInt8)) : catB (l ++ [x]) = catB l ++ boxB x := by simp [catB]
theorem boxB_two (x : List UInt8) (s : List UInt8) : (boxB x ++ s).take 2 = leB 2 x.length := by
  rw [boxB, sealB, innerB, List.append_assoc, List.append_assoc, List.take_append_of_le_length (by rw [leB_length]; omega), List.take_of_length_le (by rw [leB_length]; omega)]
/-- a whole box at the place -/
theorem next_whole (b : List UInt8) (k : Nat) (x s : List UInt8) (hd : b.drop k = boxB x ++ s) (h1 : 1 ≤ x.length) (h2 : x.length ≤ 4096) : nextK b k = (x, ((k + x.length + 6 : Nat) : Int), 0) := by
  unfold nextK
  simp only [hd, boxB_two, leN_leB]
  rw [Nat.mod_eq_of_lt (show x.length < 256 ^ 2 by omega)]
  have hl : (boxB x ++ s).length = x.length + 6 + s.length := by rw [List.length_append, boxB_length]
  rw [hl, if_neg (by omega), if_neg (by omega), if_neg (by omega), if_neg (by omega)]
  have ht : (boxB x ++ s).take (x.length + 6) = boxB x := List.take_left' (boxB_length x)
  rw [ht, if_pos (by rw [boxB]; exact seal_is _)]
  congr 1
  rw [boxB, sealB, innerB, List.append_assoc, List.append_assoc, List.drop_left' (by rw [leB_length]), List.take_left' rfl]
/-- a box that is cut off -/
theorem next_cut (b : List UInt8) (k : Nat) (x s : List UInt8) (m : Nat) (hd : b.drop k = (boxB x ++ s).take m) (hm : m < x.length + 6) (h2 : x.length ≤ 4096) : (nextK b k).2.2 ≠ 0 := by
  unfold nextK
  simp only [hd]
  by_cases h : ((boxB x ++ s).take m).length < 2
  · rw [if_pos h]; decide
  · have hml : ((boxB x ++ s).take m).length ≤ m := by simp; omega
    have h2m : 2 ≤ m := by omega
    rw [if_neg h, List.take_take, Nat.min_eq_left h2m, boxB_two, leN_leB, Nat.mod_eq_of_lt (show x.length < 256 ^ 2 by omega)]
    split
    · decide
    split
    · decide
    rw [if_pos (by omega)]
    decide
theorem next_end (b : List UInt8) (k : Nat) (hd : b.drop k = []) : (nextK b k).2.2 ≠ 0 := by
  unfold nextK
  simp only [hd]
  rw [if_pos (by simp)]
  decide
/-- the boxes that are whole -/
theorem it_cat (l : List (List UInt8)) (n j : Nat) (hl : ∀ x ∈ l, 1 ≤ x.length ∧ x.length ≤ 4096) (hj : j ≤ l.length) (hn : (catB (l.take j)).length ≤ n) :
    itB ((catB l).take n) j = (l.take j, (catB (l.take j)).length) := by
  induction j with
  | zero => simp [itB, catB]
  | succ j ih =>
    obtain ⟨x, hx⟩ : ∃ x, l[j]? = some x := ⟨l[j], List.getElem?_eq_getElem (by omega)⟩
    have htk : l.take (j + 1) = l.take j ++ [x] := by rw [List.take_add_one, hx]; rfl
    rw [htk, catB_snoc, List.length_append, boxB_length] at hn
    have hi := ih (by omega) (by omega)
    have hsplit : catB l = catB (l.take j) ++ (boxB x ++ catB (l.drop (j + 1))) := by
      conv => lhs; rw [← List.take_append_drop j l, List.drop_eq_getElem_cons (show j < l.length by omega)]
      rw [List.getElem?_eq_getElem (by omega), Option.some.injEq] at hx
      rw [hx]
      simp [catB]
    have hxl := hl x (List.mem_of_getElem? hx)
    have hw : nextK ((catB l).take n) (catB (l.take j)).length = (x, (((catB (l.take j)).length + x.length + 6 : Nat) : Int), 0) := by
      refine next_whole _ _ x ((catB (l.drop (j + 1))).take (n - ((catB (l.take j)).length + (x.length + 6)))) ?_ hxl.1 hxl.2
      · rw [List.drop_take, hsplit, List.drop_left, List.take_append, boxB_length, List.take_of_length_le (by rw [boxB_length]; omega)]
        congr 2
        omega
    rw [itB, hi, hw]
    simp only [if_true]
    rw [htk, catB_snoc, List.length_append, boxB_length]
    congr 1
theorem it_cat_stop (l : List (List UInt8)) (n j : Nat) (hl : ∀ x ∈ l, 1 ≤ x.length ∧ x.length ≤ 4096) (hn : (catB (l.take j)).length ≤ n) (hc : (∃ x, l[j]? = some x ∧ n < (catB (l.take j)).length + x.length + 6) ∨ l.length = j) :
    (nextK ((catB l).take n) (catB (l.take j)).length).2.2 ≠ 0 := by
  rcases hc with ⟨x, hx, hlt⟩ | rfl
  · have hj : j < l.length := by
      rcases Nat.lt_or_ge j l.length with h | h
      · exact h
      · rw [List.getElem?_eq_none h] at hx; cases hx
    have hsplit : catB l = catB (l.take j) ++ (boxB x ++ catB (l.drop (j + 1))) := by
      conv => lhs; rw [← List.take_append_drop j l, List.drop_eq_getElem_cons hj]
      rw [List.getElem?_eq_getElem hj, Option.some.injEq] at hx
      rw [hx]
      simp [catB]
    refine next_cut _ _ x (catB (l.drop (j + 1))) (n - (catB (l.take j)).length) ?_ (by omega) (hl x (List.mem_of_getElem? hx)).2
    rw [List.drop_take, hsplit, List.drop_left]
  · refine next_end _ _ ?_
    rw [List.take_of_length_le (Nat.le_refl _)]
    exact List.drop_eq_nil_of_le (by simp; omega)
end Go.Proofs.Ytjbejaieihchmaa
