/- Frames out of bytes: plain lists. -/
import Init
set_option linter.unusedVariables false
set_option linter.unusedSimpArgs false
namespace Go.Proofs.Ytlgngnkaiidbeaa

section fo
variable {F : Type} (D : List UInt8 → F × Int)
/-- the number at the head -/
def hdN (b : List UInt8) : Nat := (b.getD 0 0).toNat + 256 * (b.getD 1 0).toNat
/-- one frame's way: none: too few bytes; else what is wrong, or a frame and its size -/
inductive FStep (F : Type) where
  | wait : FStep F
  | bad : Int → FStep F
  | one : F → Nat → FStep F
def fstep (b : List UInt8) : FStep F :=
  if b.length < 2 then .wait
  else if hdN b = 0 ∨ 4096 < hdN b then .bad 2
  else if b.length < 2 + hdN b then .wait
  else if (D (b.take (2 + hdN b))).2 ≠ 0 then .bad (D (b.take (2 + hdN b))).2
  else .one (D (b.take (2 + hdN b))).1 (2 + hdN b)
/-- the frames, the error, the bytes that wait; at most n frames -/
def foN : Nat → List UInt8 → List F × Int × List UInt8
  | 0, b => ([], 0, b)
  | n + 1, b => match fstep D b with
    | .wait => ([], 0, b)
    | .bad e => ([], e, [])
    | .one f k => (f :: (foN n (b.drop k)).1, (foN n (b.drop k)).2)
def fo (b : List UInt8) : List F × Int × List UInt8 := foN D (b.length + 1) b
theorem fstep_one {b : List UInt8} {f : F} {k : Nat} (h : fstep D b = .one f k) : 2 ≤ k ∧ k ≤ b.length ∧ (D (b.take k)).1 = f ∧ (D (b.take k)).2 = 0 := by
  unfold fstep at h
  split at h
  · cases h
  · split at h
    · cases h
    · split at h
      · cases h
      · split at h
        · cases h
        · rename_i h1 h2 h3 h4
          injection h with h5 h6
          subst h5 h6
          exact ⟨by omega, by omega, rfl, Classical.not_not.1 h4⟩
theorem foN_enough : ∀ (n m : Nat) (b : List UInt8), b.length < n → b.length < m → foN D n b = foN D m b
  | 0, _, _, h, _ => absurd h (Nat.not_lt_zero _)
  | _ + 1, 0, _, _, h => absurd h (Nat.not_lt_zero _)
  | n + 1, m + 1, b, hn, hm => by
    unfold foN
    cases h : fstep D b with
    | wait => rfl
    | bad e => rfl
    | one f k =>
      obtain ⟨h1, h2, _⟩ := fstep_one D h
      dsimp only
      rw [foN_enough n m (b.drop k) (by rw [List.length_drop]; omega) (by rw [List.length_drop]; omega)]
theorem fo_wait {b : List UInt8} (h : fstep D b = .wait) : fo D b = ([], 0, b) := by
  unfold fo foN; rw [h]
theorem fo_bad {b : List UInt8} {e : Int} (h : fstep D b = .bad e) : fo D b = ([], e, []) := by
  unfold fo foN; rw [h]
theorem fo_one {b : List UInt8} {f : F} {k : Nat} (h : fstep D b = .one f k) : fo D b = (f :: (fo D (b.drop k)).1, (fo D (b.drop k)).2) := by
  obtain ⟨h1, h2, _⟩ := fstep_one D h
  have e : fo D (b.drop k) = foN D b.length (b.drop k) := foN_enough D _ _ _ (by omega) (by rw [List.length_drop]; omega)
  rw [e]
  show (match fstep D b with
    | .wait => ([], 0, b)
    | .bad e => ([], e, [])
    | .one f k => (f :: (foN D b.length (b.drop k)).1, (foN D b.length (b.drop k)).2)) = _
  rw [h]
theorem hdN_app {P : List UInt8} (Q : List UInt8) (h : 2 ≤ P.length) : hdN (P ++ Q) = hdN P := by
  unfold hdN
  match P, h with
  | a :: b :: r, _ => rfl
theorem fstep_app {P : List UInt8} (Q : List UInt8) (h : fstep D P ≠ .wait) : fstep D (P ++ Q) = fstep D P := by
  by_cases h2 : P.length < 2
  · exfalso; apply h; unfold fstep; rw [if_pos h2]
  · have hh := hdN_app Q (P := P) (by omega)
    have h3 : ¬ (P ++ Q).length < 2 := by rw [List.length_append]; omega
    unfold fstep at *
    rw [hh, if_neg h2, if_neg h3]
    rw [if_neg h2] at h
    by_cases h4 : hdN P = 0 ∨ 4096 < hdN P
    · rw [if_pos h4, if_pos h4]
    · rw [if_neg h4] at h
      rw [if_neg h4, if_neg h4]
      by_cases h5 : P.length < 2 + hdN P
      · exfalso; apply h; rw [if_pos h5]
      · have h6 : ¬ (P ++ Q).length < 2 + hdN P := by rw [List.length_append]; omega
        rw [if_neg h5, if_neg h6, List.take_append_of_le_length (by omega)]
/-- bytes in two parts: what came out of the first one, then what comes out of what waited and the rest -/
theorem foN_app : ∀ (n : Nat) (P Q : List UInt8), P.length < n →
    ((fo D P).2.1 = 0 → fo D (P ++ Q) = ((fo D P).1 ++ (fo D ((fo D P).2.2 ++ Q)).1, (fo D ((fo D P).2.2 ++ Q)).2)) ∧ ((fo D P).2.1 ≠ 0 → (fo D (P ++ Q)).1 = (fo D P).1 ∧ (fo D (P ++ Q)).2.1 = (fo D P).2.1)
  | 0, _, _, h => absurd h (Nat.not_lt_zero _)
  | n + 1, P, Q, hn => by
    cases h : fstep D P with
    | wait => rw [fo_wait D h]; exact ⟨fun _ => rfl, fun h => absurd rfl h⟩
    | bad e =>
      have h2 := fstep_app D Q (P := P) (by rw [h]; simp)
      rw [h] at h2
      have he : e ≠ 0 ∨ e = 0 := (Classical.em _).symm
      rw [fo_bad D h, fo_bad D h2]
      refine ⟨fun h0 => ?_, fun _ => ⟨rfl, rfl⟩⟩
      exfalso
      unfold fstep at h
      split at h
      · cases h
      · split at h
        · injection h with h; dsimp only at h0; omega
        · split at h
          · cases h
          · split at h
            · rename_i h9; injection h with h; dsimp only at h0; exact h9 (h.trans h0)
            · cases h
    | one f k =>
      obtain ⟨h1, h3, _⟩ := fstep_one D h
      have h2 := fstep_app D Q (P := P) (by rw [h]; simp)
      rw [h] at h2
      have ih := foN_app n (P.drop k) Q (by rw [List.length_drop]; omega)
      rw [fo_one D h, fo_one D h2, List.drop_append_of_le_length h3]
      refine ⟨fun h0 => ?_, fun h0 => ?_⟩
      · rw [ih.1 h0]; rfl
      · obtain ⟨a, b⟩ := ih.2 h0
        exact ⟨by rw [a], b⟩
theorem fo_app (P Q : List UInt8) : ((fo D P).2.1 = 0 → fo D (P ++ Q) = ((fo D P).1 ++ (fo D ((fo D P).2.2 ++ Q)).1, (fo D ((fo D P).2.2 ++ Q)).2)) ∧ ((fo D P).2.1 ≠ 0 → (fo D (P ++ Q)).1 = (fo D P).1 ∧ (fo D (P ++ Q)).2.1 = (fo D P).2.1) := foN_app D _ P Q (Nat.lt_succ_self _)
/-- what waits is the end of what came in -/
theorem foN_rest : ∀ (n : Nat) (P : List UInt8), P.length < n → (fo D P).2.1 = 0 → ∃ k, k ≤ P.length ∧ (fo D P).2.2 = P.drop k
  | 0, _, h, _ => absurd h (Nat.not_lt_zero _)
  | n + 1, P, hn, h0 => by
    cases h : fstep D P with
    | wait => rw [fo_wait D h]; exact ⟨0, Nat.zero_le _, by rw [List.drop_zero]⟩
    | bad e => rw [fo_bad D h] at h0 ⊢; exact ⟨P.length, Nat.le_refl _, by rw [List.drop_length]⟩
    | one f k =>
      obtain ⟨h1, h3, _⟩ := fstep_one D h
      rw [fo_one D h] at h0 ⊢
      obtain ⟨j, hj, e⟩ := foN_rest n (P.drop k) (by rw [List.length_drop]; omega) h0
      rw [List.length_drop] at hj
      exact ⟨k + j, by omega, by dsimp only; rw [e, List.drop_drop]⟩
theorem fo_len (P : List UInt8) : (fo D P).2.2.length ≤ P.length := by
  by_cases h : (fo D P).2.1 = 0
  · obtain ⟨k, _, e⟩ := foN_rest D _ P (Nat.lt_succ_self _) h
    rw [e, List.length_drop]; omega
  · have : ∀ (n : Nat) (P : List UInt8), (foN D n P).2.1 ≠ 0 → (foN D n P).2.2 = [] := by
      intro n
      induction n with
      | zero => intro P h; exact absurd rfl h
      | succ n ih =>
        intro P h
        unfold foN at h ⊢
        cases hs : fstep D P with
        | wait => rw [hs] at h; exact absurd rfl h
        | bad e => rfl
        | one f k => rw [hs] at h; exact ih _ h
    rw [show (fo D P).2.2 = [] from this _ _ h]
    exact Nat.zero_le _
theorem fo_count : ∀ (n : Nat) (P : List UInt8), P.length < n → 2 * (fo D P).1.length ≤ P.length
  | 0, _, h => absurd h (Nat.not_lt_zero _)
  | n + 1, P, hn => by
    cases h : fstep D P with
    | wait => rw [fo_wait D h]; exact Nat.zero_le _
    | bad e => rw [fo_bad D h]; exact Nat.zero_le _
    | one f k =>
      obtain ⟨h1, h3, _⟩ := fstep_one D h
      have ih := fo_count n (P.drop k) (by rw [List.length_drop]; omega)
      rw [List.length_drop] at ih
      rw [fo_one D h, List.length_cons]
      omega
theorem fo_cnt (P : List UInt8) : (fo D P).1.length ≤ P.length := by have := fo_count D _ P (Nat.lt_succ_self _); omega
/-- a feed: the bytes that wait, the error, the frames so far of bytes P -/
structure FdI (P : List UInt8) (out : List F) (e : Int) (r : List UInt8) : Prop where
  fr : (fo D P).1 = out
  er : (fo D P).2.1 = e
  ok : e = 0 → (fo D P).2.2 = r
theorem FdI.start : FdI D [] [] 0 [] := by
  have h : fstep D [] = .wait := by unfold fstep; rfl
  have h2 := fo_wait D h
  exact ⟨by rw [h2], by rw [h2], fun _ => by rw [h2]⟩
theorem FdI.push {P : List UInt8} {out : List F} {r : List UInt8} (h : FdI D P out 0 r) (Q : List UInt8) : FdI D (P ++ Q) (out ++ (fo D (r ++ Q)).1) (fo D (r ++ Q)).2.1 (fo D (r ++ Q)).2.2 := by
  have h2 := (fo_app D P Q).1 h.er
  rw [h.ok rfl] at h2
  exact ⟨by rw [h2, h.fr], by rw [h2], fun _ => by rw [h2]⟩
theorem FdI.stay {P : List UInt8} {out : List F} {e : Int} {r : List UInt8} (h : FdI D P out e r) (he : e ≠ 0) (Q : List UInt8) : FdI D (P ++ Q) out e r := by
  have h2 := (fo_app D P Q).2 (by rw [h.er]; exact he)
  exact ⟨by rw [h2.1, h.fr], by rw [h2.2, h.er], fun h0 => absurd h0 he⟩
theorem FdI.same {P : List UInt8} {o1 o2 : List F} {e1 e2 : Int} {r1 r2 : List UInt8} (h : FdI D P o1 e1 r1) (k : FdI D P o2 e2 r2) : o1 = o2 ∧ e1 = e2 := ⟨h.fr.symm.trans k.fr, h.er.symm.trans k.er⟩
/-- within a push: l came out of all so far, b is left -/
structure PuI (all : List UInt8) (l : List F) (b : List UInt8) : Prop where
  fr : (fo D all).1 = l ++ (fo D b).1
  rest : (fo D all).2 = (fo D b).2
  end_ : ∃ k, k ≤ all.length ∧ b = all.drop k
theorem PuI.start (all : List UInt8) : PuI D all [] all := ⟨rfl, rfl, 0, Nat.zero_le _, by rw [List.drop_zero]⟩
theorem PuI.step {all b : List UInt8} {l : List F} {f : F} {k : Nat} (h : PuI D all l b) (hs : fstep D b = .one f k) : PuI D all (l ++ [f]) (b.drop k) := by
  obtain ⟨j, hj, e⟩ := h.end_
  obtain ⟨h1, h3, _⟩ := fstep_one D hs
  have hl : b.length = all.length - j := by rw [e, List.length_drop]
  refine ⟨by rw [h.fr, fo_one D hs]; simp, by rw [h.rest, fo_one D hs], j + k, by omega, by rw [e, List.drop_drop]⟩
theorem PuI.wait {all b : List UInt8} {l : List F} (h : PuI D all l b) (hs : fstep D b = .wait) : fo D all = (l, 0, b) := by
  have h1 := h.fr
  have h2 := h.rest
  rw [fo_wait D hs] at h1 h2
  exact Prod.ext (by simpa using h1) h2
theorem PuI.bad {all b : List UInt8} {l : List F} {e : Int} (h : PuI D all l b) (hs : fstep D b = .bad e) : fo D all = (l, e, []) := by
  have h1 := h.fr
  have h2 := h.rest
  rw [fo_bad D hs] at h1 h2
  exact Prod.ext (by simpa using h1) h2
/-- frames that may be, one behind the other -/
theorem fo_all (enc : F → List UInt8) : ∀ (l : List F), (∀ f ∈ l, (∀ Q, fstep D (enc f ++ Q) = .one f (enc f).length)) → fo D (l.flatMap enc) = (l, 0, [])
  | [], _ => (fo_wait D (show fstep D [] = .wait by unfold fstep; rfl))
  | f :: l, h => by
    have h1 := h f List.mem_cons_self (l.flatMap enc)
    rw [List.flatMap_cons, fo_one D h1, List.drop_left, fo_all enc l (fun g hg => h g (List.mem_cons_of_mem _ hg))]
end fo
end Go.Proofs.Ytlgngnkaiidbeaa
