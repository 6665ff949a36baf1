/- Turns in order, each once: there is one such list. -/
import Derived.Test.YtlgngnkaiidbeaaPlainTurn
set_option linter.unusedVariables false
set_option linter.unusedSimpArgs false
namespace Go.Proofs.Ytlgngnkaiidbeaa

/-- ahead of it -/
def ltT (x y : Tn) : Prop := cmpTn x y < 0
instance (x y : Tn) : Decidable (ltT x y) := inferInstanceAs (Decidable (_ < _))
theorem ltT_iff (x y : Tn) : ltT x y ↔ (x.a < y.a ∨ x.a = y.a ∧ (x.b < y.b ∨ x.b = y.b ∧ x.c < y.c)) := cmpTn_lt x y
theorem Tn.eq_iff (x y : Tn) : x = y ↔ x.a = y.a ∧ x.b = y.b ∧ x.c = y.c := by cases x; cases y; simp
theorem ltT_irrefl (x : Tn) : ¬ ltT x x := by rw [ltT_iff]; omega
theorem ltT_trans {x y z : Tn} (h : ltT x y) (k : ltT y z) : ltT x z := by rw [ltT_iff] at *; omega
theorem ltT_tri (x y : Tn) : ltT x y ∨ x = y ∨ ltT y x := by rw [ltT_iff, ltT_iff, Tn.eq_iff]; omega
theorem ltT_of_le {x y z : Tn} (h : ¬ ltT y x) (k : ltT y z) : ltT x z := by rw [ltT_iff] at *; omega
/-- these turns in order, each once -/
def StrictOf (l out : List Tn) : Prop := out.Pairwise ltT ∧ ∀ x, x ∈ out ↔ x ∈ l
theorem StrictOf.nil : StrictOf [] [] := ⟨List.Pairwise.nil, fun x => Iff.rfl⟩
theorem strict_uniq : ∀ (a b : List Tn), a.Pairwise ltT → b.Pairwise ltT → (∀ x, x ∈ a ↔ x ∈ b) → a = b
  | [], [], _, _, _ => rfl
  | [], y :: b, _, _, h => absurd ((h y).2 List.mem_cons_self) (by simp)
  | x :: a, [], _, _, h => absurd ((h x).1 List.mem_cons_self) (by simp)
  | x :: a, y :: b, ha, hb, h => by
    rw [List.pairwise_cons] at ha hb
    have hxy : x = y := by
      rcases List.mem_cons.1 ((h x).1 List.mem_cons_self) with e | hx
      · exact e
      · rcases List.mem_cons.1 ((h y).2 List.mem_cons_self) with e | hy
        · exact e.symm
        · exact absurd (ltT_trans (ha.1 y hy) (hb.1 x hx)) (ltT_irrefl x)
    subst hxy
    rw [strict_uniq a b ha.2 hb.2 (fun z => ?_)]
    have hz := h z
    rw [List.mem_cons, List.mem_cons] at hz
    constructor
    · intro hm
      rcases hz.1 (.inr hm) with e | k
      · subst e; exact absurd (ha.1 _ hm) (ltT_irrefl _)
      · exact k
    · intro hm
      rcases hz.2 (.inr hm) with e | k
      · subst e; exact absurd (hb.1 _ hm) (ltT_irrefl _)
      · exact k
theorem StrictOf.uniq {l a b : List Tn} (h : StrictOf l a) (k : StrictOf l b) : a = b := strict_uniq a b h.1 k.1 (fun x => (h.2 x).trans (k.2 x).symm)
theorem StrictOf.perm {l m a : List Tn} (h : StrictOf l a) (k : l.Perm m) : StrictOf m a := ⟨h.1, fun x => (h.2 x).trans k.mem_iff⟩
/-- one more of a sorted list, unlike the one ahead of it -/
theorem StrictOf.snoc {l out : List Tn} {k : Nat} (hp : l.Pairwise (fun x y => ¬ ltT y x)) (hk : k < l.length) (h : StrictOf (l.take k) out) (hn : k = 0 ∨ ∃ (h0 : k - 1 < l.length), l[k] ≠ l[k - 1]) : StrictOf (l.take (k + 1)) (out ++ [l[k]]) := by
  have hpw := List.pairwise_iff_getElem.1 hp
  refine ⟨?_, fun x => ?_⟩
  · rw [List.pairwise_append]
    refine ⟨h.1, List.pairwise_singleton _ _, fun x hx y hy => ?_⟩
    rw [List.mem_singleton] at hy
    subst hy
    rw [h.2, List.mem_take_iff_getElem] at hx
    obtain ⟨i, hi, rfl⟩ := hx
    have hik : i < k := by omega
    rcases hn with hn | ⟨h0, hne⟩
    · omega
    · have h1 : ltT l[k - 1] l[k] := by
        rcases ltT_tri l[k - 1] l[k] with c | c | c
        · exact c
        · exact absurd c.symm hne
        · exact absurd c (hpw (k - 1) k h0 hk (by omega))
      by_cases e : i = k - 1
      · subst e; exact h1
      · exact ltT_of_le (hpw i (k - 1) (by omega) h0 (by omega)) h1
  · rw [List.mem_append, List.mem_singleton, List.take_succ_eq_append_getElem hk, List.mem_append, List.mem_singleton, h.2]
theorem StrictOf.skip {l out : List Tn} {k : Nat} (hk : k < l.length) (h : StrictOf (l.take k) out) (h0 : 0 < k) (hn : l[k] = l[k - 1]) : StrictOf (l.take (k + 1)) out := by
  refine ⟨h.1, fun x => ?_⟩
  rw [List.take_succ_eq_append_getElem hk, List.mem_append, List.mem_singleton, h.2]
  constructor
  · exact .inl
  · rintro (a | rfl)
    · exact a
    · rw [hn, List.mem_take_iff_getElem]
      exact ⟨k - 1, by omega, rfl⟩
theorem StrictOf.snocp {l out : List Tn} {k p : Nat} (e : k = p + 1) (hp : l.Pairwise (fun x y => ¬ ltT y x)) (hk : k < l.length) (h0 : p < l.length) (h : StrictOf (l.take k) out) (hn : l[k] ≠ l[p]) : StrictOf (l.take (k + 1)) (out ++ [l[k]]) := by
  subst e
  exact h.snoc hp hk (.inr ⟨h0, hn⟩)
theorem StrictOf.skipp {l out : List Tn} {k p : Nat} (e : k = p + 1) (hk : k < l.length) (h0 : p < l.length) (h : StrictOf (l.take k) out) (hn : l[k] = l[p]) : StrictOf (l.take (k + 1)) out := by
  subst e
  exact h.skip hk (by omega) hn
/-- a turn put where it belongs -/
theorem StrictOf.put {l out : List Tn} {t : Tn} {p : Nat} (h : StrictOf l out) (hp : p ≤ out.length) (h1 : ∀ (i : Nat) (hi : i < out.length), i < p → ltT out[i] t) (h2 : ∀ (hq : p < out.length), ltT t out[p]) : StrictOf (l ++ [t]) (out.take p ++ [t] ++ out.drop p) := by
  have hpw := List.pairwise_iff_getElem.1 h.1
  refine ⟨?_, fun x => ?_⟩
  · rw [List.append_assoc, List.pairwise_append]
    refine ⟨h.1.take, ?_, ?_⟩
    · rw [List.singleton_append, List.pairwise_cons]
      refine ⟨fun y hy => ?_, h.1.drop⟩
      rw [List.mem_drop_iff_getElem] at hy
      obtain ⟨i, hi, rfl⟩ := hy
      by_cases e : i = 0
      · subst e; simpa using h2 (by omega)
      · exact ltT_trans (h2 (by omega)) (hpw p (p + i) (by omega) (by omega) (by omega))
    · intro x hx y hy
      rw [List.mem_take_iff_getElem] at hx
      obtain ⟨i, hi, rfl⟩ := hx
      rw [List.mem_append, List.mem_singleton] at hy
      rcases hy with rfl | hy
      · exact h1 i (by omega) (by omega)
      · rw [List.mem_drop_iff_getElem] at hy
        obtain ⟨j, hj, rfl⟩ := hy
        exact hpw i (p + j) (by omega) (by omega) (by omega)
  · have h3 : x ∈ out ↔ (x ∈ out.take p ∨ x ∈ out.drop p) := by
      rw [← List.mem_append, List.take_append_drop]
    have h4 := h.2 x
    simp only [List.mem_append, List.mem_singleton]
    rw [← h4, h3]
    constructor
    · rintro ((a | a) | a)
      · exact .inl (.inl a)
      · exact .inr a
      · exact .inl (.inr a)
    · rintro ((a | a) | a)
      · exact .inl (.inl a)
      · exact .inr a
      · exact .inl (.inr a)
theorem StrictOf.there {l out : List Tn} {t : Tn} (h : StrictOf l out) (ht : t ∈ out) : StrictOf (l ++ [t]) out := by
  refine ⟨h.1, fun x => ?_⟩
  rw [List.mem_append, List.mem_singleton, h.2]
  constructor
  · exact .inl
  · rintro (a | rfl)
    · exact a
    · exact (h.2 _).1 ht
/-- a turn put in its place, unless it is there -/
def insT (t : Tn) : List Tn → List Tn
  | [] => [t]
  | y :: l => if ltT y t then y :: insT t l else if y = t then y :: l else t :: y :: l
theorem insT_mem (t x : Tn) : ∀ l : List Tn, x ∈ insT t l ↔ x = t ∨ x ∈ l
  | [] => by simp [insT]
  | y :: l => by
    unfold insT
    split
    · rw [List.mem_cons, insT_mem t x l, List.mem_cons]
      constructor
      · rintro (a | a | a)
        · exact .inr (.inl a)
        · exact .inl a
        · exact .inr (.inr a)
      · rintro (a | a | a)
        · exact .inr (.inl a)
        · exact .inl a
        · exact .inr (.inr a)
    · split
      · rename_i h
        subst h
        rw [List.mem_cons]
        constructor
        · exact fun a => .inr a
        · rintro (a | a)
          · exact .inl a
          · exact a
      · rw [List.mem_cons]
theorem insT_pw (t : Tn) : ∀ l : List Tn, l.Pairwise ltT → (insT t l).Pairwise ltT
  | [], _ => List.pairwise_singleton _ _
  | y :: l, h => by
    rw [List.pairwise_cons] at h
    unfold insT
    split
    · rename_i hy
      rw [List.pairwise_cons]
      refine ⟨fun z hz => ?_, insT_pw t l h.2⟩
      rcases (insT_mem t z l).1 hz with rfl | hz
      · exact hy
      · exact h.1 z hz
    · rename_i hy
      split
      · rw [List.pairwise_cons]; exact h
      · rename_i hne
        have hty : ltT t y := by
          rcases ltT_tri t y with c | c | c
          · exact c
          · exact absurd c.symm hne
          · exact absurd c hy
        rw [List.pairwise_cons]
        refine ⟨fun z hz => ?_, by rw [List.pairwise_cons]; exact h⟩
        rcases List.mem_cons.1 hz with rfl | hz
        · exact hty
        · exact ltT_trans hty (h.1 z hz)
theorem insT_len (t : Tn) : ∀ l : List Tn, (insT t l).length ≤ l.length + 1
  | [] => by simp [insT]
  | y :: l => by
    unfold insT
    have := insT_len t l
    split
    · simp only [List.length_cons]; omega
    · split <;> simp only [List.length_cons] <;> omega
/-- turns in order, each once -/
def sortT (l : List Tn) : List Tn := l.foldr insT []
theorem sortT_strict : ∀ l : List Tn, StrictOf l (sortT l)
  | [] => StrictOf.nil
  | t :: l => by
    have h := sortT_strict l
    refine ⟨insT_pw t _ h.1, fun x => ?_⟩
    show x ∈ insT t (sortT l) ↔ _
    rw [insT_mem, h.2, List.mem_cons]
theorem sortT_len : ∀ l : List Tn, (sortT l).length ≤ l.length
  | [] => Nat.le_refl _
  | t :: l => by
    have h := sortT_len l
    have := insT_len t (sortT l)
    show (insT t (sortT l)).length ≤ _
    rw [List.length_cons]; omega
theorem StrictOf.eq {l a : List Tn} (h : StrictOf l a) : a = sortT l := h.uniq (sortT_strict l)
end Go.Proofs.Ytlgngnkaiidbeaa
