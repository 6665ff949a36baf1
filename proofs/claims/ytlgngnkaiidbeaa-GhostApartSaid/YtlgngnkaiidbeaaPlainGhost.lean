/- Ghosts in their order: plain lists. -/
import Derived.Test.YtlgngnkaiidbeaaPlainCB
set_option maxRecDepth 100000
set_option linter.unusedVariables false
set_option linter.unusedSimpArgs false
namespace Go.Proofs.Ytlgngnkaiidbeaa

structure Gh where
  t : ByteArray
  p : Nat
  s : Nat
  c : Nat
  l : Nat
theorem Gh.eq_iff (x y : Gh) : x = y ↔ x.t = y.t ∧ x.p = y.p ∧ x.s = y.s ∧ x.c = y.c ∧ x.l = y.l := by cases x; cases y; simp
abbrev GK := ByteArray × Nat
def Gh.k (x : Gh) : GK := (x.t, x.p)
theorem ba_ext {a b : ByteArray} (h : a.data.toList = b.data.toList) : a = b := by cases a; cases b; simp at h; rw [h]
def cP (a b : Nat) : Int := if a < b then -1 else if b < a then 1 else 0
/-- the order of keys -/
def cG (a b : GK) : Int := if cB a.1.data.toList b.1.data.toList = 0 then cP a.2 b.2 else cB a.1.data.toList b.1.data.toList
theorem cG_zero {a b : GK} : cG a b = 0 ↔ a = b := by
  unfold cG cP
  constructor
  · intro h
    split at h
    · rename_i h1
      have := ba_ext (cB_zero h1)
      have h2 : a.2 = b.2 := by
        by_cases q1 : a.2 < b.2
        · rw [if_pos q1] at h; omega
        · rw [if_neg q1] at h
          by_cases q2 : b.2 < a.2
          · rw [if_pos q2] at h; omega
          · omega
      exact Prod.ext this h2
    · exact absurd h (by assumption)
  · rintro rfl; simp [cB_self]
theorem cG_swap (a b : GK) : cG a b < 0 ↔ 0 < cG b a := by
  unfold cG cP
  have h := cB_swap a.1.data.toList b.1.data.toList
  by_cases h1 : cB a.1.data.toList b.1.data.toList = 0
  · have h2 : cB b.1.data.toList a.1.data.toList = 0 := by omega
    rw [if_pos h1, if_pos h2]
    by_cases q1 : a.2 < b.2
    · have q2 : ¬ b.2 < a.2 := by omega
      simp [q1, q2]
    · by_cases q2 : b.2 < a.2
      · simp [q1, q2]
      · simp [q1, q2]
  · have h2 : ¬ cB b.1.data.toList a.1.data.toList = 0 := by omega
    rw [if_neg h1, if_neg h2]; omega
theorem cG_trans {a b c : GK} (h1 : cG a b < 0) (h2 : cG b c < 0) : cG a c < 0 := by
  unfold cG at *
  by_cases e1 : cB a.1.data.toList b.1.data.toList = 0
  · rw [if_pos e1] at h1
    have := cB_zero e1
    rw [this]
    by_cases e2 : cB b.1.data.toList c.1.data.toList = 0
    · rw [if_pos e2] at h2
      rw [if_pos e2]
      unfold cP at *
      by_cases q1 : a.2 < b.2
      · by_cases q2 : b.2 < c.2
        · rw [if_pos (by omega)]; decide
        · rw [if_neg q2] at h2; split at h2 <;> omega
      · rw [if_neg q1] at h1; split at h1 <;> omega
    · rw [if_neg e2] at h2; rw [if_neg e2]; exact h2
  · rw [if_neg e1] at h1
    by_cases e2 : cB b.1.data.toList c.1.data.toList = 0
    · have := cB_zero e2
      rw [← this, if_neg e1]; exact h1
    · rw [if_neg e2] at h2
      have h3 := cB_trans h1 h2
      rw [if_neg (by omega)]; exact h3
/-- they stand in their order -/
def Rz (l : List Gh) : Prop := l.Pairwise (fun a b => cG a.k b.k < 0)
def posG (l : List Gh) (k : GK) : Nat := l.findIdx (fun a => decide (0 ≤ cG a.k k))
def thG (l : List Gh) (k : GK) : Bool := l.any (fun a => decide (cG a.k k = 0))
def ghNone (k : GK) : Gh := ⟨k.1, k.2, 0, 0, 0⟩
def lookG (l : List Gh) (k : GK) : Gh := (l.find? (fun a => decide (cG a.k k = 0))).getD (ghNone k)
theorem posG_le (l : List Gh) (k : GK) : posG l k ≤ l.length := List.findIdx_le_length
theorem posG_split {l : List Gh} (h : Rz l) (s : GK) : (∀ (i : Nat) (hi : i < l.length), i < posG l s → cG l[i].k s < 0) ∧ (∀ (i : Nat) (hi : i < l.length), posG l s ≤ i → 0 ≤ cG l[i].k s) := by
  refine ⟨fun i hi hlt => ?_, fun i hi hle => ?_⟩
  · have := List.not_of_lt_findIdx (p := fun a : Gh => decide (0 ≤ cG a.k s)) hlt
    simpa using this
  · have hp : posG l s < l.length := by omega
    have h1 : 0 ≤ cG l[posG l s].k s := by
      have := List.findIdx_getElem (p := fun a : Gh => decide (0 ≤ cG a.k s)) (w := hp)
      exact of_decide_eq_true this
    rcases Nat.lt_or_ge (posG l s) i with hl | hg
    · have h2 : cG l[posG l s].k l[i].k < 0 := (List.pairwise_iff_getElem.1 h) _ _ hp hi hl
      rcases Int.lt_or_le (cG l[i].k s) 0 with e | e
      · have := cG_trans h2 e
        omega
      · exact e
    · obtain rfl : i = posG l s := by omega
      exact h1
theorem posG_there {l : List Gh} (h : Rz l) {s : GK} {i : Nat} (hi : i < l.length) (hs : cG l[i].k s = 0) : posG l s = i := by
  obtain ⟨h1, h2⟩ := posG_split h s
  have hs' := cG_zero.1 hs
  rcases Nat.lt_trichotomy (posG l s) i with hl | hl | hl
  · have hp : posG l s < l.length := by omega
    have h3 : cG l[posG l s].k l[i].k < 0 := (List.pairwise_iff_getElem.1 h) _ _ hp hi hl
    have := h2 _ hp (Nat.le_refl _)
    rw [hs'] at h3
    omega
  · exact hl
  · have := h1 i hi hl
    omega
theorem thG_iff {l : List Gh} (h : Rz l) (s : GK) : thG l s = true ↔ ∃ hp : posG l s < l.length, cG l[posG l s].k s = 0 := by
  constructor
  · intro ht
    obtain ⟨a, ha, hs⟩ := List.any_eq_true.1 ht
    obtain ⟨i, hi, rfl⟩ := List.mem_iff_getElem.1 ha
    have := posG_there h hi (of_decide_eq_true hs)
    subst this
    exact ⟨hi, of_decide_eq_true hs⟩
  · rintro ⟨hp, hs⟩
    exact List.any_eq_true.2 ⟨_, List.getElem_mem hp, decide_eq_true hs⟩
theorem thG_eq {l : List Gh} (h : Rz l) (s : GK) (hp : posG l s < l.length) : thG l s = decide (cG l[posG l s].k s = 0) := by
  rw [Bool.eq_iff_iff, thG_iff h, decide_eq_true_eq]
  exact ⟨fun ⟨_, h⟩ => h, fun h => ⟨hp, h⟩⟩
theorem look_there {l : List Gh} (h : Rz l) {s : GK} (ht : thG l s = true) : ∃ hp : posG l s < l.length, lookG l s = l[posG l s] ∧ l[posG l s].k = s := by
  obtain ⟨hp, h0⟩ := (thG_iff h s).1 ht
  refine ⟨hp, ?_, cG_zero.1 h0⟩
  unfold lookG
  have hne : (l.find? (fun a => decide (cG a.k s = 0))).isSome := by
    rw [List.find?_isSome]
    exact ⟨_, List.getElem_mem hp, decide_eq_true h0⟩
  obtain ⟨a, ha⟩ := Option.isSome_iff_exists.1 hne
  rw [ha]
  have hm := List.mem_of_find?_eq_some ha
  have hk := List.find?_some ha
  obtain ⟨i, hi, rfl⟩ := List.mem_iff_getElem.1 hm
  have hpi := posG_there h hi (of_decide_eq_true hk)
  subst hpi
  rfl
theorem look_none {l : List Gh} {s : GK} (ht : thG l s = false) : lookG l s = ghNone s := by
  unfold lookG
  have : l.find? (fun a => decide (cG a.k s = 0)) = none := by
    rw [List.find?_eq_none]
    intro a ha hk
    have : thG l s = true := List.any_eq_true.2 ⟨a, ha, hk⟩
    rw [ht] at this; cases this
  rw [this]; rfl
/-- one is put at its place -/
def putG (l : List Gh) (p : Nat) (x : Gh) : List Gh := l.take p ++ x :: l.drop p
theorem put_look {l : List Gh} {p : Nat} {x : Gh} {k : GK} (hk : x.k ≠ k) : lookG (putG l p x) k = lookG l k := by
  unfold lookG putG
  have hx : decide (cG x.k k = 0) = false := decide_eq_false (fun h => hk (cG_zero.1 h))
  rw [List.find?_append, List.find?_cons, hx]
  conv => rhs; rw [← List.take_append_drop p l, List.find?_append]
theorem set_look {l : List Gh} {p : Nat} (hp : p < l.length) {x : Gh} {k : GK} (hx : x.k = l[p].k) (hk : x.k ≠ k) : lookG (l.set p x) k = lookG l k := by
  have e : l.set p x = l.take p ++ x :: l.drop (p + 1) := by
    rw [List.set_eq_take_append_cons_drop, if_pos hp]
  have e2 : l = l.take p ++ l[p] :: l.drop (p + 1) := by
    rw [List.getElem_cons_drop, List.take_append_drop]
  unfold lookG
  have h1 : decide (cG x.k k = 0) = false := decide_eq_false (fun h => hk (cG_zero.1 h))
  have h2 : decide (cG l[p].k k = 0) = false := by rw [← hx]; exact h1
  have hf : (l.take p ++ l[p] :: l.drop (p + 1)).find? (fun a => decide (cG a.k k = 0)) = (l.take p ++ x :: l.drop (p + 1)).find? (fun a => decide (cG a.k k = 0)) := by
    rw [List.find?_append, List.find?_append, List.find?_cons, List.find?_cons, h1, h2]
  rw [← e2, ← e] at hf
  rw [hf]
theorem set_rz {l : List Gh} (h : Rz l) {p : Nat} (hp : p < l.length) {x : Gh} (hx : x.k = l[p].k) : Rz (l.set p x) := by
  unfold Rz at *
  rw [List.pairwise_iff_getElem] at *
  intro i j hi hj hij
  have key : ∀ (m : Nat) (hm : m < (l.set p x).length), (l.set p x)[m].k = (l[m]'(by simpa using hm)).k := by
    intro m hm
    rw [List.getElem_set]
    split
    · rename_i e; subst e; exact hx
    · rfl
  rw [key, key]
  exact h i j _ _ hij
theorem put_rz {l : List Gh} (h : Rz l) {x : Gh} (ht : thG l x.k = false) : Rz (putG l (posG l x.k) x) := by
  obtain ⟨h1, h2⟩ := posG_split h x.k
  have h3 : ∀ (i : Nat) (hi : i < l.length), posG l x.k ≤ i → 0 < cG l[i].k x.k := by
    intro i hi hle
    have := h2 i hi hle
    rcases Int.lt_or_le 0 (cG l[i].k x.k) with q | q
    · exact q
    · have h0 : cG l[i].k x.k = 0 := by omega
      have : thG l x.k = true := List.any_eq_true.2 ⟨_, List.getElem_mem hi, decide_eq_true h0⟩
      rw [ht] at this; cases this
  unfold Rz putG at *
  rw [List.pairwise_append, List.pairwise_cons]
  refine ⟨h.sublist (List.take_sublist _ _), ⟨fun b hb => ?_, h.sublist (List.drop_sublist _ _)⟩, fun a ha b hb => ?_⟩
  · obtain ⟨i, hi, rfl⟩ := List.mem_iff_getElem.1 hb
    rw [List.getElem_drop]
    rw [List.length_drop] at hi
    exact (cG_swap _ _).2 (h3 _ (by omega) (by omega))
  · obtain ⟨i, hi, rfl⟩ := List.mem_iff_getElem.1 ha
    rw [List.length_take] at hi
    rw [List.getElem_take]
    have hi' : i < posG l x.k := by omega
    have hil : i < l.length := by omega
    have ha0 := h1 i hil hi'
    rcases List.mem_cons.1 hb with rfl | hb
    · exact ha0
    · obtain ⟨j, hj, rfl⟩ := List.mem_iff_getElem.1 hb
      rw [List.getElem_drop]
      rw [List.length_drop] at hj
      exact List.pairwise_iff_getElem.1 h _ _ _ _ (by omega)
/-- what is done to one ghost -/
def chG (l : List Gh) (k : GK) (f : Gh → Gh) : List Gh := if thG l k = true then l.set (posG l k) (f (lookG l k)) else putG l (posG l k) (f (ghNone k))
theorem chG_rz {l : List Gh} (h : Rz l) {k : GK} {f : Gh → Gh} (hf : ∀ x, (f x).k = x.k) : Rz (chG l k f) := by
  unfold chG
  split
  · rename_i ht
    obtain ⟨hp, he, hk⟩ := look_there h ht
    exact set_rz h hp (by rw [hf, he])
  · rename_i ht
    have hk : (f (ghNone k)).k = k := by rw [hf]; rfl
    have := put_rz (x := f (ghNone k)) h (by rw [hk]; simpa using ht)
    rwa [hk] at this
theorem chG_look {l : List Gh} (h : Rz l) {k o : GK} {f : Gh → Gh} (hf : ∀ x, (f x).k = x.k) (ho : k ≠ o) : lookG (chG l k f) o = lookG l o := by
  unfold chG
  split
  · rename_i ht
    obtain ⟨hp, he, hk⟩ := look_there h ht
    exact set_look hp (by rw [hf, he]) (by rw [hf, he, hk]; exact ho)
  · exact put_look (by rw [hf]; exact ho)
theorem rz_adj (l : List Gh) : Rz l ↔ ∀ i (h : i + 1 < l.length), cG l[i].k l[i + 1].k < 0 := by
  constructor
  · intro h i hi
    exact List.pairwise_iff_getElem.1 h _ _ _ _ (by omega)
  · intro h
    unfold Rz
    rw [List.pairwise_iff_getElem]
    intro i j hi hj hij
    obtain ⟨d, rfl⟩ : ∃ d, j = i + 1 + d := ⟨j - (i + 1), by omega⟩
    clear hij
    induction d with
    | zero => exact h i hj
    | succ d ih =>
      have h1 := ih (by omega)
      have h2 := h (i + 1 + d) (by omega)
      exact cG_trans h1 h2
end Go.Proofs.Ytlgngnkaiidbeaa
