/- The plain law of ledgers: names in order, the place of a name, an account put in its place. The plain law of ledgers: what is wrong with a record, the ledger behind it. Ledgers in memory; the place of a name. slices.BinarySearchFunc of accounts; ledger.place. ref16.Rise, Large, Find, Account. Ledgers of the call's own. ledger.Clone. ledger.Check, Find. ledger.Find. A struct stored in the middle of a row. -/
import Derived.Test.YtkbjnlbbfapgdaaDoorAcctP
import Derived.Lib.Bytealg
import Derived.Test.YtkbjnlbbfapgdaaDoorArgAc
import Derived.Test.YtkbjnlbbfapgdaaDoorShelf
import Derived.Test.YtkbjnlbbfapgdaaDoorAcctL
import Derived.Test.YtkbjnlbbfapgdaaDoorQuietE
import Derived.Test.YtkbjnlbbfapgdaaDoorAcctY
import Derived.Test.YtkbjnlbbfapgdaaDoorCopyV
set_option maxRecDepth 100000
set_option linter.unusedVariables false
set_option linter.unusedSimpArgs false
namespace Go.Proofs.YtkbjnlbbfapgdaaDoor
open Go.RowKit

abbrev cB := Lib.compareBytes
theorem cB_self (a : List UInt8) : cB a a = 0 := by
  induction a with
  | nil => rfl
  | cons x l ih => unfold cB at *; simp [Lib.compareBytes, ih, UInt8.lt_irrefl]
theorem cB_cases (a b : List UInt8) : cB a b = -1 ∨ cB a b = 0 ∨ cB a b = 1 := by
  induction a generalizing b with
  | nil => cases b <;> simp [cB, Lib.compareBytes]
  | cons x l ih =>
    cases b with
    | nil => simp [cB, Lib.compareBytes]
    | cons y m =>
      unfold cB at *
      simp only [Lib.compareBytes]
      split
      · exact .inl rfl
      · split
        · exact .inr (.inr rfl)
        · exact ih m
theorem cB_zero {a b : List UInt8} (h : cB a b = 0) : a = b := by
  induction a generalizing b with
  | nil => cases b with
    | nil => rfl
    | cons y m => simp [cB, Lib.compareBytes] at h
  | cons x l ih =>
    cases b with
    | nil => simp [cB, Lib.compareBytes] at h
    | cons y m =>
      unfold cB at *
      simp only [Lib.compareBytes] at h
      split at h
      · cases h
      · split at h
        · cases h
        · rename_i h1 h2
          have : x = y := by
            have e1 : ¬ x.toNat < y.toNat := h1
            have e2 : ¬ y.toNat < x.toNat := h2
            exact UInt8.toNat.inj (by omega)
          rw [this, ih h]
theorem cB_swap (a b : List UInt8) : cB a b = - cB b a := by
  induction a generalizing b with
  | nil => cases b <;> simp [cB, Lib.compareBytes]
  | cons x l ih =>
    cases b with
    | nil => simp [cB, Lib.compareBytes]
    | cons y m =>
      unfold cB at *
      simp only [Lib.compareBytes]
      by_cases h1 : x < y
      · have h2 : ¬ y < x := fun h => UInt8.lt_irrefl _ (UInt8.lt_trans h1 h)
        simp [h1, h2]
      · by_cases h2 : y < x
        · simp [h1, h2]
        · simp [h1, h2]; exact ih m
theorem cB_trans {a b c : List UInt8} (h1 : cB a b < 0) (h2 : cB b c < 0) : cB a c < 0 := by
  induction a generalizing b c with
  | nil =>
    cases c with
    | nil => cases b with
      | nil => simp [cB, Lib.compareBytes] at h1
      | cons y m => simp [cB, Lib.compareBytes] at h2
    | cons z n => simp [cB, Lib.compareBytes]
  | cons x l ih =>
    cases b with
    | nil => simp [cB, Lib.compareBytes] at h1
    | cons y m =>
      cases c with
      | nil => simp [cB, Lib.compareBytes] at h2
      | cons z n =>
        unfold cB at *
        simp only [Lib.compareBytes] at h1 h2 ⊢
        by_cases e1 : x < y
        · by_cases e2 : y < z
          · rw [if_pos (UInt8.lt_trans e1 e2)]; decide
          · rw [if_neg e2] at h2
            by_cases e3 : z < y
            · rw [if_pos e3] at h2; exact absurd h2 (by decide)
            · have : y = z := by
                have q1 : ¬ y.toNat < z.toNat := e2
                have q2 : ¬ z.toNat < y.toNat := e3
                exact UInt8.toNat.inj (by omega)
              subst this
              rw [if_pos e1]; decide
        · rw [if_neg e1] at h1
          by_cases e4 : y < x
          · rw [if_pos e4] at h1; exact absurd h1 (by decide)
          · rw [if_neg e4] at h1
            have : x = y := by
              have q1 : ¬ x.toNat < y.toNat := e1
              have q2 : ¬ y.toNat < x.toNat := e4
              exact UInt8.toNat.inj (by omega)
            subst this
            by_cases e2 : x < z
            · rw [if_pos e2]; decide
            · rw [if_neg e2] at h2 ⊢
              by_cases e3 : z < x
              · rw [if_pos e3] at h2; exact absurd h2 (by decide)
              · rw [if_neg e3] at h2 ⊢
                exact ih h1 h2

/-- an account's name -/
def Ac.nm (a : Ac) : List UInt8 := a.ten.data.toList
theorem Ac.nm_eq {a : Ac} {s : ByteArray} : a.nm = s.data.toList ↔ a.ten = s := by
  unfold Ac.nm
  constructor
  · intro h; cases ht : a.ten; cases s; rw [ht] at h; simp at h; rw [h]
  · intro h; rw [h]
/-- names rise -/
def Rises (l : List Ac) : Prop := l.Pairwise (fun a b => cB a.nm b.nm < 0)
def riseB : List Ac → Bool
  | [] => true
  | [_] => true
  | a :: b :: l => decide (cB a.nm b.nm < 0) && riseB (b :: l)
theorem riseB_iff (l : List Ac) : riseB l = true ↔ Rises l := by
  induction l with
  | nil => simp [riseB, Rises]
  | cons a l ih =>
    cases l with
    | nil => simp [riseB, Rises]
    | cons b l =>
      unfold riseB
      rw [Bool.and_eq_true, ih, decide_eq_true_eq]
      unfold Rises
      rw [List.pairwise_cons (a := a)]
      constructor
      · rintro ⟨h1, h2⟩
        refine ⟨fun c hc => ?_, h2⟩
        rcases List.mem_cons.1 hc with rfl | hc
        · exact h1
        · exact cB_trans h1 ((List.pairwise_cons.1 h2).1 c hc)
      · rintro ⟨h1, h2⟩
        exact ⟨h1 b (List.mem_cons_self ..), h2⟩
/-- how many names are ahead of one -/
def posN (l : List Ac) (s : List UInt8) : Nat := l.findIdx (fun a => decide (0 ≤ cB a.nm s))
def thereB (l : List Ac) (s : List UInt8) : Bool := l.any (fun a => decide (a.nm = s))
/-- an account that has nothing -/
def acNone (s : ByteArray) : Ac := ⟨s, 0, 0, 0, 0, [], []⟩
def accOf (l : List Ac) (s : ByteArray) : Ac := (l.find? (fun a => decide (a.ten = s))).getD (acNone s)

theorem posN_le (l : List Ac) (s : List UInt8) : posN l s ≤ l.length := List.findIdx_le_length
theorem pos_split {l : List Ac} (h : Rises l) (s : List UInt8) : (∀ (i : Nat) (hi : i < l.length), i < posN l s → cB l[i].nm s < 0) ∧ (∀ (i : Nat) (hi : i < l.length), posN l s ≤ i → 0 ≤ cB l[i].nm s) := by
  refine ⟨fun i hi hlt => ?_, fun i hi hle => ?_⟩
  · have := List.not_of_lt_findIdx (p := fun a : Ac => decide (0 ≤ cB a.nm s)) hlt
    simpa using this
  · have hp : posN l s < l.length := by omega
    have h1 : 0 ≤ cB l[posN l s].nm s := by
      have := List.findIdx_getElem (p := fun a : Ac => decide (0 ≤ cB a.nm s)) (w := hp)
      exact of_decide_eq_true this
    rcases Nat.lt_or_ge (posN l s) i with hl | hg
    · have h2 : cB l[posN l s].nm l[i].nm < 0 := (List.pairwise_iff_getElem.1 h) _ _ hp hi hl
      rcases cB_cases l[i].nm s with e | e | e
      · have := cB_trans h2 (by rw [e]; decide : cB l[i].nm s < 0)
        omega
      · omega
      · omega
    · obtain rfl : i = posN l s := by omega
      exact h1
/-- a name that is there stands at its place -/
theorem pos_there {l : List Ac} (h : Rises l) {s : List UInt8} {i : Nat} (hi : i < l.length) (hs : l[i].nm = s) : posN l s = i := by
  obtain ⟨h1, h2⟩ := pos_split h s
  rcases Nat.lt_trichotomy (posN l s) i with hl | hl | hl
  · have hp : posN l s < l.length := by omega
    have h3 : cB l[posN l s].nm l[i].nm < 0 := (List.pairwise_iff_getElem.1 h) _ _ hp hi hl
    have := h2 _ hp (Nat.le_refl _)
    rw [hs] at h3
    omega
  · exact hl
  · have := h1 i hi hl
    rw [hs, cB_self] at this
    omega
theorem there_iff {l : List Ac} (h : Rises l) (s : List UInt8) : thereB l s = true ↔ ∃ hp : posN l s < l.length, l[posN l s].nm = s := by
  constructor
  · intro ht
    obtain ⟨a, ha, hs⟩ := List.any_eq_true.1 ht
    obtain ⟨i, hi, rfl⟩ := List.mem_iff_getElem.1 ha
    have := pos_there h hi (of_decide_eq_true hs)
    subst this
    exact ⟨hi, of_decide_eq_true hs⟩
  · rintro ⟨hp, hs⟩
    exact List.any_eq_true.2 ⟨_, List.getElem_mem hp, decide_eq_true hs⟩
/-- what BinarySearchFunc tells -/
theorem there_eq {l : List Ac} (h : Rises l) (s : List UInt8) (hp : posN l s < l.length) : thereB l s = decide (cB l[posN l s].nm s = 0) := by
  rw [Bool.eq_iff_iff, there_iff h, decide_eq_true_eq]
  constructor
  · rintro ⟨_, hs⟩; rw [hs, cB_self]
  · intro h0; exact ⟨hp, cB_zero h0⟩
end Go.Proofs.YtkbjnlbbfapgdaaDoor

namespace Go.Proofs.YtkbjnlbbfapgdaaDoor
open Go.RowKit

theorem less_cB (a b : List UInt8) : Op.bytesLess a b = decide (cB a b < 0) := by
  induction a generalizing b with
  | nil => cases b <;> simp [Op.bytesLess, cB, Lib.compareBytes]
  | cons x l ih =>
    cases b with
    | nil => simp [Op.bytesLess, cB, Lib.compareBytes]
    | cons y m =>
      have := ih m
      unfold cB at *
      simp only [Lib.compareBytes, Op.bytesLess, this]
      by_cases h1 : x < y
      · simp [h1]
      · by_cases h2 : y < x
        · have h3 : x ≠ y := fun e => UInt8.lt_irrefl _ (e ▸ h2)
          simp [h1, h2, h3]
        · have h3 : x = y := by
            have e1 : ¬ x.toNat < y.toNat := h1
            have e2 : ¬ y.toNat < x.toNat := h2
            exact UInt8.toNat.inj (by omega)
          subst h3
          simp [h1]
theorem acc_none {l : List Ac} {s : ByteArray} (h : thereB l s.data.toList = false) : accOf l s = acNone s := by
  have : l.find? (fun a => decide (a.ten = s)) = none := by
    rw [List.find?_eq_none]
    intro a ha hd
    have := List.any_eq_false.1 h a ha
    exact this (decide_eq_true (Ac.nm_eq.2 (of_decide_eq_true hd)))
  unfold accOf; rw [this]; rfl
theorem acc_there {l : List Ac} (hr : Rises l) {s : ByteArray} (h : thereB l s.data.toList = true) : ∃ hp : posN l s.data.toList < l.length, accOf l s = l[posN l s.data.toList] ∧ l[posN l s.data.toList].ten = s := by
  obtain ⟨hp, hn⟩ := (there_iff hr _).1 h
  refine ⟨hp, ?_, Ac.nm_eq.1 hn⟩
  have hs : (l.find? (fun a => decide (a.ten = s))).isSome := by
    rw [List.find?_isSome]
    exact ⟨_, List.getElem_mem hp, decide_eq_true (Ac.nm_eq.1 hn)⟩
  obtain ⟨x, hx⟩ := Option.isSome_iff_exists.1 hs
  have h1 : x.ten = s := by have := List.find?_some hx; exact of_decide_eq_true this
  obtain ⟨i, hi, rfl⟩ := List.mem_iff_getElem.1 (List.mem_of_find?_eq_some hx)
  have h2 := pos_there hr hi (Ac.nm_eq.2 h1)
  unfold accOf; rw [hx]
  simp only [Option.getD_some, h2]
theorem acc_ten (l : List Ac) (s : ByteArray) : (accOf l s).ten = s := by
  unfold accOf
  cases h : l.find? (fun a => decide (a.ten = s)) with
  | none => rfl
  | some x => have := List.find?_some h; exact of_decide_eq_true this
theorem acc_mem (l : List Ac) (s : ByteArray) : accOf l s ∈ l ∨ accOf l s = acNone s := by
  unfold accOf
  cases h : l.find? (fun a => decide (a.ten = s)) with
  | none => exact .inr rfl
  | some x => exact .inl (List.mem_of_find?_eq_some h)

def chkL (seq : Nat) (l : List Ac) (r : Rc) : Int :=
  if recE r.seq r.kind r.ten r.lease r.n r.bits ≠ 0 then recE r.seq r.kind r.ten r.lease r.n r.bits
  else if r.seq ≠ (seq + 1) % 18446744073709551616 then 12
  else if thereB l r.ten.data.toList = false ∧ 8 ≤ l.length then 15
  else chkA (accOf l r.ten) r
/-- an account in its place -/
def putL (l : List Ac) (a : Ac) : List Ac := if thereB l a.nm then l.set (posN l a.nm) a else l.insertIdx (posN l a.nm) a
def comL (l : List Ac) (r : Rc) : List Ac := putL l (appA (accOf l r.ten) r)
theorem app_ten (a : Ac) (r : Rc) : (appA a r).ten = a.ten := by
  unfold appA; split
  · rfl
  · split
    · rfl
    · split
      · rfl
      · split <;> rfl
theorem com_nm (l : List Ac) (r : Rc) : (appA (accOf l r.ten) r).nm = r.ten.data.toList := by unfold Ac.nm; rw [app_ten, acc_ten]

theorem put_get {l : List Ac} {a : Ac} (i : Nat) : (putL l a)[i]? = if thereB l a.nm then (if posN l a.nm = i ∧ i < l.length then some a else l[i]?) else (if i < posN l a.nm then l[i]? else if i = posN l a.nm then some a else l[i - 1]?) := by
  unfold putL
  split
  · rw [List.getElem?_set]
    by_cases h : posN l a.nm = i
    · subst h; by_cases h2 : posN l a.nm < l.length <;> simp [h2]
    · simp [h]
  · have hp := posN_le l a.nm
    rcases Nat.lt_trichotomy i (posN l a.nm) with h | h | h
    · rw [if_pos h, List.getElem?_insertIdx_of_lt h]
    · subst h; simp [List.getElem?_insertIdx_self]; omega
    · rw [if_neg (by omega), if_neg (by omega), List.getElem?_insertIdx_of_gt h]
theorem put_len (l : List Ac) (a : Ac) : (putL l a).length = if thereB l a.nm then l.length else l.length + 1 := by
  unfold putL
  split
  · simp
  · rw [List.length_insertIdx, if_pos (posN_le _ _)]
theorem put_mem {l : List Ac} {a x : Ac} (h : x ∈ putL l a) : x = a ∨ x ∈ l := by
  unfold putL at h
  split at h
  · rcases List.mem_or_eq_of_mem_set h with h | h
    · exact .inr h
    · exact .inl h
  · rw [List.mem_insertIdx (posN_le _ _)] at h
    exact h
theorem rises_get {l : List Ac} : Rises l ↔ ∀ (i j : Nat) (x y : Ac), l[i]? = some x → l[j]? = some y → i < j → cB x.nm y.nm < 0 := by
  unfold Rises
  rw [List.pairwise_iff_getElem]
  constructor
  · intro h i j x y hx hy hij
    obtain ⟨hi, rfl⟩ := List.getElem?_eq_some_iff.1 hx
    obtain ⟨hj, rfl⟩ := List.getElem?_eq_some_iff.1 hy
    exact h i j hi hj hij
  · intro h i j hi hj hij
    exact h i j _ _ (List.getElem?_eq_getElem hi) (List.getElem?_eq_getElem hj) hij
theorem put_rises {l : List Ac} (hr : Rises l) (a : Ac) : Rises (putL l a) := by
  obtain ⟨h1, h2⟩ := pos_split hr a.nm
  cases ht : thereB l a.nm with
  | true =>
    obtain ⟨hp, hn⟩ := (there_iff hr _).1 ht
    rw [rises_get] at hr ⊢
    intro i j x y hx hy hij
    rw [put_get, if_pos ht] at hx hy
    have key : ∀ k z, (if posN l a.nm = k ∧ k < l.length then some a else l[k]?) = some z → ∃ z', l[k]? = some z' ∧ z'.nm = z.nm := by
      intro k z hz
      split at hz
      · rename_i hk
        obtain ⟨rfl, hk⟩ := hk
        obtain rfl : a = z := by injection hz
        exact ⟨_, List.getElem?_eq_getElem hk, hn⟩
      · exact ⟨z, hz, rfl⟩
    obtain ⟨x', hx', ex⟩ := key _ _ hx
    obtain ⟨y', hy', ey⟩ := key _ _ hy
    rw [← ex, ← ey]
    exact hr _ _ _ _ hx' hy' hij
  | false =>
    have hne : ∀ (i : Nat) (hi : i < l.length), posN l a.nm ≤ i → cB a.nm l[i].nm < 0 := by
      intro i hi hle
      have h3 := h2 i hi hle
      rcases cB_cases l[i].nm a.nm with e | e | e
      · omega
      · have := cB_zero e
        have h4 := pos_there hr hi this
        have : thereB l a.nm = true := (there_iff hr _).2 ⟨by omega, by have : posN l a.nm = i := h4; simp only [this]; exact cB_zero e⟩
        rw [ht] at this; cases this
      · rw [cB_swap, e]; decide
    rw [rises_get] at hr ⊢
    intro i j x y hx hy hij
    rw [put_get, if_neg (by rw [ht]; decide)] at hx hy
    by_cases i1 : i < posN l a.nm
    · rw [if_pos i1] at hx
      by_cases j1 : j < posN l a.nm
      · rw [if_pos j1] at hy; exact hr _ _ _ _ hx hy hij
      · rw [if_neg j1] at hy
        by_cases j2 : j = posN l a.nm
        · rw [if_pos j2] at hy
          obtain rfl : a = y := by injection hy
          obtain ⟨hi, rfl⟩ := List.getElem?_eq_some_iff.1 hx
          exact h1 i hi i1
        · rw [if_neg j2] at hy; exact hr _ _ _ _ hx hy (by omega)
    · rw [if_neg i1] at hx
      rw [if_neg (by omega), if_neg (by omega)] at hy
      by_cases i2 : i = posN l a.nm
      · rw [if_pos i2] at hx
        obtain rfl : a = x := by injection hx
        obtain ⟨hj, rfl⟩ := List.getElem?_eq_some_iff.1 hy
        exact hne _ hj (by omega)
      · rw [if_neg i2] at hx; exact hr _ _ _ _ hx hy (by omega)
theorem com_rises {l : List Ac} (hr : Rises l) (r : Rc) : Rises (comL l r) := put_rises hr _
/-- a member, by its name -/
theorem acc_of {l : List Ac} (hr : Rises l) {i : Nat} (hi : i < l.length) : accOf l l[i].ten = l[i] := by
  have ht : thereB l l[i].ten.data.toList = true := List.any_eq_true.2 ⟨_, List.getElem_mem hi, decide_eq_true rfl⟩
  obtain ⟨hp, h1, h2⟩ := acc_there hr ht
  have := pos_there hr hi (show l[i].nm = l[i].ten.data.toList from rfl)
  rw [h1]; simp only [this]
theorem acc_put_self {l : List Ac} (hr : Rises l) (a : Ac) : accOf (putL l a) a.ten = a := by
  have hm : ∃ i, ∃ hi : i < (putL l a).length, (putL l a)[i] = a := by
    refine ⟨posN l a.nm, ?_, ?_⟩
    · rw [put_len]; split
      · rename_i ht; obtain ⟨hp, _⟩ := (there_iff hr _).1 ht; exact hp
      · have := posN_le l a.nm; omega
    · have h0 : (putL l a)[posN l a.nm]? = some a := by
        rw [put_get]; split
        · rename_i ht; obtain ⟨hp, _⟩ := (there_iff hr _).1 ht; rw [if_pos ⟨rfl, hp⟩]
        · rw [if_neg (by omega), if_pos rfl]
      obtain ⟨_, h0⟩ := List.getElem?_eq_some_iff.1 h0
      exact h0
  obtain ⟨i, hi, he⟩ := hm
  have := acc_of (put_rises hr a) hi
  rwa [he] at this
theorem put_keeps {l : List Ac} (hr : Rises l) {a x : Ac} (hx : x ∈ l) (hn : x.ten ≠ a.ten) : x ∈ putL l a := by
  obtain ⟨i, hi, rfl⟩ := List.mem_iff_getElem.1 hx
  cases ht : thereB l a.nm with
  | true =>
    have hne : ¬ (posN l a.nm = i ∧ i < l.length) := by
      rintro ⟨he, _⟩
      obtain ⟨hp, h1⟩ := (there_iff hr _).1 ht
      subst he
      exact hn (Ac.nm_eq.1 h1)
    have : (putL l a)[i]? = some l[i] := by rw [put_get, if_pos ht, if_neg hne]; exact List.getElem?_eq_getElem hi
    exact List.mem_of_getElem? this
  | false =>
    by_cases h : i < posN l a.nm
    · have : (putL l a)[i]? = some l[i] := by rw [put_get, if_neg (by rw [ht]; decide), if_pos h]; exact List.getElem?_eq_getElem hi
      exact List.mem_of_getElem? this
    · have : (putL l a)[i + 1]? = some l[i] := by rw [put_get, if_neg (by rw [ht]; decide), if_neg (by omega), if_neg (by omega)]; exact List.getElem?_eq_getElem hi
      exact List.mem_of_getElem? this
theorem acc_put_other {l : List Ac} (hr : Rises l) (a : Ac) {s : ByteArray} (hs : s ≠ a.ten) : accOf (putL l a) s = accOf l s := by
  cases h1 : thereB l s.data.toList with
  | true =>
    obtain ⟨hp, e1, e2⟩ := acc_there hr h1
    have hm : l[posN l s.data.toList] ∈ putL l a := put_keeps hr (List.getElem_mem hp) (by rw [e2]; exact hs)
    obtain ⟨i, hi, he⟩ := List.mem_iff_getElem.1 hm
    have := acc_of (put_rises hr a) hi
    rw [he, e2] at this
    rw [this, e1]
  | false =>
    rw [acc_none h1]
    refine acc_none (List.any_eq_false.2 fun x hx hd => ?_)
    have hxn : x.ten = s := Ac.nm_eq.1 (of_decide_eq_true hd)
    rcases put_mem hx with rfl | hx
    · exact hs hxn.symm
    · exact List.any_eq_false.1 h1 x hx (decide_eq_true (Ac.nm_eq.2 hxn))
/-- what comes to one tenant leaves all others -/
theorem com_apart {l : List Ac} (hr : Rises l) (r : Rc) {s : ByteArray} (hs : s ≠ r.ten) : accOf (comL l r) s = accOf l s :=
  acc_put_other hr _ (by rw [app_ten, acc_ten]; exact hs)
theorem com_self {l : List Ac} (hr : Rises l) (r : Rc) : accOf (comL l r) r.ten = appA (accOf l r.ten) r := by
  have := acc_put_self hr (appA (accOf l r.ten) r)
  rwa [app_ten, acc_ten] at this
theorem com_len {l : List Ac} {seq : Nat} {r : Rc} (h : chkL seq l r = 0) (hl : l.length ≤ 12) : (comL l r).length ≤ 12 := by
  unfold comL; rw [put_len, com_nm]
  unfold chkL at h
  split at h
  · rename_i h1; exact absurd h h1
  · split at h
    · cases h
    · split at h
      · cases h
      · rename_i h3
        cases ht : thereB l r.ten.data.toList with
        | true => simpa using hl
        | false =>
          have : ¬ 8 ≤ l.length := fun h8 => h3 ⟨ht, h8⟩
          simp; omega
theorem chkL_zero {l : List Ac} {seq : Nat} {r : Rc} (h : chkL seq l r = 0) : r.seq = (seq + 1) % 18446744073709551616 ∧ (thereB l r.ten.data.toList = false → l.length < 8) ∧ chkA (accOf l r.ten) r = 0 := by
  unfold chkL at h
  split at h
  · rename_i h1; exact absurd h h1
  · split at h
    · cases h
    · rename_i h2
      split at h
      · cases h
      · rename_i h3
        exact ⟨by simpa using h2, fun ht => by have : ¬ 8 ≤ l.length := fun h8 => h3 ⟨ht, h8⟩
                                               omega, h⟩

/-- what the document's answer has put together so far -/
def outM (l : List Ac) (a : Ac) (i : Nat) : List Ac := if i ≤ posN l a.nm then l.take i else (putL l a).take (i + if thereB l a.nm then 0 else 1)
theorem take_get {α : Type} {xs : List α} {k : Nat} {x : α} (h : xs[k]? = some x) : xs.take (k + 1) = xs.take k ++ [x] := by
  obtain ⟨hk, rfl⟩ := List.getElem?_eq_some_iff.1 h
  exact List.take_succ_eq_append_getElem hk
theorem put_take {l : List Ac} {a : Ac} {i : Nat} (h : i ≤ posN l a.nm) : (putL l a).take i = l.take i := by
  apply List.ext_getElem?
  intro j
  rw [List.getElem?_take, List.getElem?_take]
  split
  · rw [put_get]
    split
    · rw [if_neg (by rintro ⟨h1, _⟩; omega)]
    · rw [if_pos (by omega)]
  · rfl
theorem outM_zero (l : List Ac) (a : Ac) : outM l a 0 = [] := by unfold outM; rw [if_pos (Nat.zero_le _)]; rfl
theorem outM_lt {l : List Ac} {a : Ac} {i : Nat} (hi : i < l.length) (h : i < posN l a.nm) : outM l a (i + 1) = outM l a i ++ [l[i]] := by
  unfold outM
  rw [if_pos (by omega), if_pos (by omega)]
  exact List.take_succ_eq_append_getElem hi
theorem outM_eq {l : List Ac} (hr : Rises l) {a : Ac} {i : Nat} (hi : i < l.length) (h : i = posN l a.nm) : outM l a (i + 1) = if thereB l a.nm then outM l a i ++ [a] else outM l a i ++ [a] ++ [l[i]] := by
  have e1 : outM l a i = (putL l a).take i := by unfold outM; rw [if_pos (by omega), ← put_take (a := a) (by omega)]
  have e2 : outM l a (i + 1) = (putL l a).take (i + 1 + if thereB l a.nm then 0 else 1) := by unfold outM; rw [if_neg (by omega)]
  rw [e1, e2]
  have h0 : (putL l a)[i]? = some a := by
    rw [put_get]; split
    · rw [if_pos ⟨h.symm, hi⟩]
    · simp [h]
  cases ht : thereB l a.nm with
  | true => simp only [if_true]; exact take_get h0
  | false =>
    have ht : ¬ thereB l a.nm = true := by rw [ht]; decide
    simp only [if_false, Bool.false_eq_true]
    have h1 : (putL l a)[i + 1]? = some l[i] := by
      rw [put_get, if_neg ht, if_neg (by omega), if_neg (by omega)]; exact List.getElem?_eq_getElem hi
    rw [take_get h1, take_get h0]
theorem outM_gt {l : List Ac} {a : Ac} {i : Nat} (hi : i < l.length) (h : posN l a.nm < i) : outM l a (i + 1) = outM l a i ++ [l[i]] := by
  have e1 : outM l a i = (putL l a).take (i + if thereB l a.nm then 0 else 1) := by unfold outM; rw [if_neg (by omega)]
  have e2 : outM l a (i + 1) = (putL l a).take (i + 1 + if thereB l a.nm then 0 else 1) := by unfold outM; rw [if_neg (by omega)]
  rw [e1, e2]
  split
  · rename_i ht
    refine take_get ?_
    rw [put_get, if_pos ht, if_neg (by rintro ⟨h1, _⟩; omega)]
    exact List.getElem?_eq_getElem hi
  · rename_i ht
    refine take_get (k := i + 1) ?_
    rw [put_get, if_neg ht, if_neg (by omega), if_neg (by omega)]
    exact List.getElem?_eq_getElem hi
theorem outM_end {l : List Ac} (hr : Rises l) (a : Ac) : putL l a = if posN l a.nm < l.length then outM l a l.length else outM l a l.length ++ [a] := by
  have hp := posN_le l a.nm
  split
  · rename_i h
    unfold outM
    rw [if_neg (by omega), List.take_of_length_le]
    rw [put_len]; split <;> omega
  · rename_i h
    have ht : thereB l a.nm = false := by
      cases ht : thereB l a.nm with
      | false => rfl
      | true => obtain ⟨hq, _⟩ := (there_iff hr _).1 ht; exact absurd hq h
    have h0 : (putL l a)[l.length]? = some a := by rw [put_get, ht]; simp; omega
    unfold outM
    rw [if_pos (by omega), ← put_take (a := a) (by omega), ← take_get h0, List.take_of_length_le]
    rw [put_len, ht]; simp
/-- the tests of the document's answer -/
theorem outM_done {l : List Ac} (hr : Rises l) {a : Ac} {i : Nat} (hi : i < l.length) : (posN l a.nm ≤ i ↔ 0 ≤ cB l[i].nm a.nm) ∧ (l[i].ten = a.ten ↔ thereB l a.nm = true ∧ i = posN l a.nm) := by
  obtain ⟨h1, h2⟩ := pos_split hr a.nm
  refine ⟨⟨h2 i hi, fun h => ?_⟩, ⟨fun h => ?_, ?_⟩⟩
  · rcases Nat.lt_or_ge i (posN l a.nm) with h3 | h3
    · have := h1 i hi h3; omega
    · exact h3
  · have hn : l[i].nm = a.nm := by unfold Ac.nm; rw [h]
    have := pos_there hr hi hn
    exact ⟨(there_iff hr _).2 ⟨by omega, by simp only [this]; exact hn⟩, this.symm⟩
  · rintro ⟨ht, rfl⟩
    obtain ⟨hp, hn⟩ := (there_iff hr _).1 ht
    exact Ac.nm_eq.1 hn
/-- the place of a name by the document -/
def findR (l : List Ac) (s : ByteArray) : Int := if thereB l s.data.toList then (l.findIdx (fun a => decide (a.ten = s)) : Nat) else -1
end Go.Proofs.YtkbjnlbbfapgdaaDoor

namespace Go.Proofs.YtkbjnlbbfapgdaaDoor
open Go.RowKit

/-- an account, and where its lists lie -/
structure Ax where
  a : Ac
  AL : Option Addr
  cL : Nat
  AC : Option Addr
  cC : Nat
def Ax.cs (x : Ax) : List Value := [.string x.a.ten, .int .u64 x.a.cap, .int .u64 x.a.used, .int .u64 x.a.bits, .int .u64 x.a.per, .slice x.AL x.a.ls.length x.cL, .slice x.AC x.a.cl.length x.cC]
theorem Ax.cs_len (x : Ax) : x.cs.length = 7 := rfl
def Ax.in_ (w : World) (x : Ax) : Prop := AcIn w x.a x.AL x.cL x.AC x.cC
theorem AcIn.ext {w w1 : World} {a : Ac} {AL AC : Option Addr} {cL cC : Nat} (h : AcIn w a AL cL AC cC) (e : Ext w w1) : AcIn w1 a AL cL AC cC :=
  ⟨h.rd.ext e, h.nl, h.nc, h.ll, h.lc, h.ml, h.mc, h.lok, h.cok, h.ten, h.cap, h.used, h.bits, h.per⟩
/-- a list of accounts that can be read -/
structure RdL (w : World) (A : Option Addr) (xs : List Ax) : Prop where
  rd : RdE Ax.cs w A xs
  each : ∀ x ∈ xs, x.in_ w
theorem RdL.ext {w w1 : World} {A : Option Addr} {xs : List Ax} (h : RdL w A xs) (e : Ext w w1) : RdL w1 A xs := ⟨h.rd.ext e, fun x hx => (h.each x hx).ext e⟩
theorem RdE.seven {w : World} {A : Option Addr} {xs : List Ax} (h : RdE Ax.cs w A xs) {i : Nat} (hi : i < xs.length) : ∃ ad, A = some ad ∧ w.cell? (ad.add (i * 7)) = some (.string xs[i].a.ten) ∧ w.cell? ⟨(ad.add (i * 7)).block, (ad.add (i * 7)).off + 1, none⟩ = some (.int .u64 xs[i].a.cap) ∧ w.cell? ⟨(ad.add (i * 7)).block, (ad.add (i * 7)).off + 2, none⟩ = some (.int .u64 xs[i].a.used) ∧
    w.cell? ⟨(ad.add (i * 7)).block, (ad.add (i * 7)).off + 3, none⟩ = some (.int .u64 xs[i].a.bits) ∧ w.cell? ⟨(ad.add (i * 7)).block, (ad.add (i * 7)).off + 4, none⟩ = some (.int .u64 xs[i].a.per) ∧ w.cell? ⟨(ad.add (i * 7)).block, (ad.add (i * 7)).off + 5, none⟩ = some (.slice xs[i].AL xs[i].a.ls.length xs[i].cL) ∧ w.cell? ⟨(ad.add (i * 7)).block, (ad.add (i * 7)).off + 6, none⟩ = some (.slice xs[i].AC xs[i].a.cl.length xs[i].cC) := by
  obtain ⟨ad, ha, hc⟩ := RdE.at_ Ax.cs_len h hi (by decide)
  refine ⟨ad, ha, hc 0 _ rfl, ?_, ?_, ?_, ?_, ?_, ?_⟩
  · rw [← add_off _ 1 (by decide)]; exact hc 1 _ rfl
  · rw [← add_off _ 2 (by decide)]; exact hc 2 _ rfl
  · rw [← add_off _ 3 (by decide)]; exact hc 3 _ rfl
  · rw [← add_off _ 4 (by decide)]; exact hc 4 _ rfl
  · rw [← add_off _ 5 (by decide)]; exact hc 5 _ rfl
  · rw [← add_off _ 6 (by decide)]; exact hc 6 _ rfl
abbrev acs (xs : List Ax) : List Ac := xs.map (·.a)

theorem cmp_calls (x : Ac) (AL AC : Option Addr) (cL cC : Nat) (s : ByteArray) (w : World) :
    Calls Tryd.prog 125 #[acA x AL cL AC cC, .string s] w (RetV w (.int .i64 (cB x.nm s.data.toList))) := by
  unfold acA
  go_enter Tryd.func125, Tryd.ntmps125
  go_wp2_with (first
    | ((with_reducible show wpList _ _ _ ({ dst := some 2, op := Op.box 26 _, type := _, pos := _, after := _, guard := _ } :: _) _ _); refine bxA _ rfl 26 _ rfl _ rfl ?_; intro g1 w1 hg hs1 k1 e1; have E1 := Lib.hid e1; obtain ⟨a0, a1, a2, a3, a4, a5, a6⟩ := ac_cells k1; clear hg hs1 k1 e1))
  refine (Tryd.strings_Compare x.ten s _).mono ?_
  rintro e w2 ⟨rfl, rfl⟩
  go_wp2_with fail
  go_ret
  exact ⟨rfl, E1.out⟩
end Go.Proofs.YtkbjnlbbfapgdaaDoor

namespace Go.Proofs.YtkbjnlbbfapgdaaDoor
open Go.RowKit

theorem ax_get {xs : List Ax} {i : Nat} (h : i < xs.length) : (acs xs)[i]'(by simpa using h) = xs[i].a := by simp [acs]
theorem mid_shr (i j : Nat) (h : i + j < 9223372036854775808) : ((i : Int) + j) / 2 = (((i + j) / 2 : Nat) : Int) := by omega

set_option maxHeartbeats 4000000 in
theorem bsearch_calls (A : Option Addr) (c : Nat) (xs : List Ax) (s : ByteArray) (w : World) (hb : RdL w A xs) (hl : xs.length ≤ 100000) (hr : Rises (acs xs)) :
    Calls Tryd.prog 124 #[.slice A xs.length c, .string s, .func (.func 125) #[] #[]] w (RetV w (.tuple #[.int .i64 (posN (acs xs) s.data.toList), .bool (thereB (acs xs) s.data.toList)])) := by
  have HB := Lib.hid hb
  have HP : Hid (∀ i (hi : i < xs.length), (cB xs[i].a.nm s.data.toList < 0 → i < posN (acs xs) s.data.toList) ∧ (¬ cB xs[i].a.nm s.data.toList < 0 → posN (acs xs) s.data.toList ≤ i)) := by
    intro i hi
    obtain ⟨h1, h2⟩ := pos_split hr s.data.toList
    have hi' : i < (acs xs).length := by simpa using hi
    refine ⟨fun h => ?_, fun h => ?_⟩
    · rcases Nat.lt_or_ge i (posN (acs xs) s.data.toList) with h3 | h3
      · exact h3
      · have := h2 i hi' h3; rw [ax_get hi] at this; omega
    · rcases Nat.lt_or_ge i (posN (acs xs) s.data.toList) with h3 | h3
      · have := h1 i hi' h3; rw [ax_get hi] at this; omega
      · exact h3
  have HT : Hid (∀ hp : posN (acs xs) s.data.toList < xs.length, thereB (acs xs) s.data.toList = decide (cB (xs[posN (acs xs) s.data.toList]).a.nm s.data.toList = 0)) := by
    intro hp
    rw [there_eq hr _ (by simpa using hp), ax_get hp]
  have HN : Hid (¬ posN (acs xs) s.data.toList < xs.length → thereB (acs xs) s.data.toList = false) := by
    intro h
    cases ht : thereB (acs xs) s.data.toList with
    | false => rfl
    | true => obtain ⟨hp, _⟩ := (there_iff hr _).1 ht; exact absurd (by simpa using hp) h
  have hle : posN (acs xs) s.data.toList ≤ xs.length := by have := posN_le (acs xs) s.data.toList; simpa using this
  clear hb hr
  generalize posN (acs xs) s.data.toList = p at *
  generalize thereB (acs xs) s.data.toList = th at *
  have eg : ∀ args w, (callFunc 125 args).run Tryd.prog w = .ok (.enter 125 args) w := enters_of Tryd.func125 (by kernel_rfl) rfl
  go_enter Tryd.func124, Tryd.ntmps124
  go_wp2_with fail
  go_loopw [9, 10] (fun i j wr => ∃ I J : Nat, i = .int .i64 I ∧ j = .int .i64 J ∧ I ≤ p ∧ p ≤ J ∧ J ≤ xs.length ∧ Ext w wr) (fun i j _ => (intOf j - intOf i).toNat)
  case atStart => exact ⟨0, xs.length, rfl, rfl, by omega, hle, Nat.le_refl _, Ext.refl _⟩
  case round =>
    obtain ⟨I, J, rfl, rfl, h1, h2, h3, hE⟩ := hrel
    have E0 := Lib.hid hE
    clear hE
    by_cases hlt : I < J
    · obtain ⟨m, hm⟩ : ∃ m, m = (I + J) / 2 := ⟨_, rfl⟩
      have hm1 : I ≤ m := by omega
      have hm2 : m < J := by omega
      have hmx : m < xs.length := by omega
      have u1 : IntKind.i64.wrap ((I : Int) + J) = (I : Int) + J := IntWalk.i64_in _ (by omega)
      have u2 : IntKind.u64.wrap ((I : Int) + J) = (I : Int) + J := IntWalk.u64_in _ (by omega)
      have um : ((I : Int) + J) / 2 = (m : Int) := by omega
      clear hm
      obtain ⟨ad, rfl, x0, x1, x2, x3, x4, x5, x6⟩ := (HB.out.rd.ext E0.out).seven hmx
      have hk1 : (m : Int) < (xs.length : Int) := by omega
      have HPm := Lib.hid (HP.out m hmx)
      have HCC : Hid (Calls Tryd.prog 125 #[.agg #[.string xs[m].a.ten, .int .u64 xs[m].a.cap, .int .u64 xs[m].a.used, .int .u64 xs[m].a.bits, .int .u64 xs[m].a.per, .slice xs[m].AL xs[m].a.ls.length xs[m].cL, .slice xs[m].AC xs[m].a.cl.length xs[m].cC], .string s] wr (RetV wr (.int .i64 (cB xs[m].a.nm s.data.toList)))) := cmp_calls xs[m].a _ _ _ _ s wr
      generalize xs[m] = x at *
      generalize cB x.a.nm s.data.toList = v at *
      have um1 : IntKind.i64.wrap ((m : Int) + 1) = (m : Int) + 1 := IntWalk.i64_in _ (by omega)
      by_cases hv : v < 0
      · have hmp := HPm.out.1 hv
        have qv : decide (v < 0) = true := decide_eq_true hv
        go_wp2_with (go_at_fn 125; refine HCC.out.mono ?_; rintro e w2 ⟨rfl, e2⟩; have E2 := Lib.hid (E0.out.trans e2); clear e2)
        go_roundw
        case rel => exact ⟨m + 1, J, by go_num, rfl, by omega, h2, h3, E2.out⟩
        case measure => simp [intOf]; omega
      · have hmp := HPm.out.2 (by omega)
        have qv : decide (v < 0) = false := decide_eq_false hv
        go_wp2_with (go_at_fn 125; refine HCC.out.mono ?_; rintro e w2 ⟨rfl, e2⟩; have E2 := Lib.hid (E0.out.trans e2); clear e2)
        go_roundw
        case rel => exact ⟨I, m, rfl, rfl, h1, hmp, by omega, E2.out⟩
        case measure => simp [intOf]; omega
    · obtain rfl : I = p := by omega
      by_cases hp : I < xs.length
      · obtain ⟨ad, rfl, x0, x1, x2, x3, x4, x5, x6⟩ := (HB.out.rd.ext E0.out).seven hp
        have HF := Lib.hid (HT.out hp)
        have HCC : Hid (Calls Tryd.prog 125 #[.agg #[.string xs[I].a.ten, .int .u64 xs[I].a.cap, .int .u64 xs[I].a.used, .int .u64 xs[I].a.bits, .int .u64 xs[I].a.per, .slice xs[I].AL xs[I].a.ls.length xs[I].cL, .slice xs[I].AC xs[I].a.cl.length xs[I].cC], .string s] wr (RetV wr (.int .i64 (cB xs[I].a.nm s.data.toList)))) := cmp_calls xs[I].a _ _ _ _ s wr
        clear HT HN HP
        generalize xs[I] = x at *
        generalize cB x.a.nm s.data.toList = v at *
        go_wp2_with (go_at_fn 125; refine HCC.out.mono ?_; rintro e w2 ⟨rfl, e2⟩; have E2 := Lib.hid (E0.out.trans e2); clear e2)
        go_ret2
        rw [HF.out]
        refine ⟨?_, E2.out⟩
        congr 1
      · have HF := Lib.hid (HN.out hp)
        clear HT HN HP
        go_wp2_with fail
        go_ret2
        rw [HF.out]
        exact ⟨rfl, E0.out⟩

theorem lg_cells {w : World} {g : Nat} {t : TypeId} {seq : Nat} {A : Option Addr} {n c : Nat} (h : Arr w g t #[.int .u64 seq, .slice A n c]) : w.cell? ⟨g, 0, none⟩ = some (.int .u64 seq) ∧ w.cell? ⟨g, 1, none⟩ = some (.slice A n c) := ⟨h.cell 0, h.cell 1⟩
def lgA (seq : Nat) (A : Option Addr) (n c : Nat) : Value := .agg #[.int .u64 seq, .slice A n c]
theorem place_calls (seq : Nat) (A : Option Addr) (c : Nat) (xs : List Ax) (s : ByteArray) (w : World) (hb : RdL w A xs) (hl : xs.length ≤ 100000) (hr : Rises (acs xs)) :
    Calls Tryd.prog 88 #[lgA seq A xs.length c, .string s] w (RetV w (.tuple #[.int .i64 (posN (acs xs) s.data.toList), .bool (thereB (acs xs) s.data.toList)])) := by
  have HC : Hid (∀ W, Ext w W → Calls Tryd.prog 124 #[.slice A xs.length c, .string s, .func (.func 125) #[] #[]] W (RetV W (.tuple #[.int .i64 (posN (acs xs) s.data.toList), .bool (thereB (acs xs) s.data.toList)]))) := fun W e => bsearch_calls A c xs s W (hb.ext e) hl hr
  clear hb hr
  generalize posN (acs xs) s.data.toList = p at *
  generalize thereB (acs xs) s.data.toList = th at *
  unfold lgA
  go_enter Tryd.func88, Tryd.ntmps88
  go_wp2_with (first
    | ((with_reducible show wpList _ _ _ ({ dst := some 2, op := Op.box 40 _, type := _, pos := _, after := _, guard := _ } :: _) _ _); refine bxA _ rfl 40 _ rfl _ rfl ?_; intro g1 w1 hg hs1 k1 e1; have E1 := Lib.hid e1; obtain ⟨a0, a1⟩ := lg_cells k1; clear hg hs1 k1 e1))
  refine (HC.out _ E1.out).mono ?_
  rintro e w2 ⟨rfl, e2⟩
  go_wp2_with fail
  go_ret2
  exact ⟨rfl, E1.out.trans e2⟩
end Go.Proofs.YtkbjnlbbfapgdaaDoor

namespace Go.Proofs.YtkbjnlbbfapgdaaDoor
open Go.RowKit

theorem ret_boolW {a b : Bool} (h : a = b) : Ending.returned (.bool a) = .returned (.bool b) := by rw [h]
theorem leq_cB (a b : ByteArray) : (Op.bytesLess a.toList b.toList || a.toList == b.toList) = decide (0 ≤ cB b.data.toList a.data.toList) := by
  rw [less_cB, ByteArray.toList_eq, ByteArray.toList_eq]
  have h1 := cB_swap b.data.toList a.data.toList
  rcases cB_cases a.data.toList b.data.toList with e | e | e
  · rw [h1, e]; rfl
  · have := cB_zero e
    rw [h1, e, this]; simp
  · have h2 : a.data.toList ≠ b.data.toList := fun h => by rw [h, cB_self] at e; cases e
    have h3 : ¬ a.data = b.data := fun h => h2 (by rw [h])
    rw [h1, e]; simp [h3]
theorem riseB_adj (l : List Ac) : riseB l = true ↔ ∀ j (h : j + 1 < l.length), cB l[j].nm l[j + 1].nm < 0 := by
  induction l with
  | nil => simp [riseB]
  | cons a l ih =>
    cases l with
    | nil => simp [riseB]
    | cons b l =>
      unfold riseB
      rw [Bool.and_eq_true, ih, decide_eq_true_eq]
      constructor
      · rintro ⟨h1, h2⟩ j h
        cases j with
        | zero => exact h1
        | succ j => exact h2 j (by simpa using h)
      · intro h
        exact ⟨h 0 (by simp), fun j hj => h (j + 1) (by simpa using hj)⟩

set_option maxHeartbeats 4000000 in
theorem rrise_calls (seq : Nat) (A : Option Addr) (c : Nat) (xs : List Ax) (w : World) (hb : RdL w A xs) (hl : xs.length ≤ 9223372036854775807) :
    Calls Tryd.prog 32 #[lgA seq A xs.length c] w (RetV w (.bool (riseB (acs xs)))) := by
  have HB := Lib.hid hb
  clear hb
  have HT : Hid ((∀ j (h : j + 1 < xs.length), cB xs[j].a.nm xs[j + 1].a.nm < 0) → riseB (acs xs) = true) := fun h => (riseB_adj _).2 (fun j hj => by have := h j (by simpa using hj); simpa [acs] using this)
  have HF : Hid (∀ j (h : j + 1 < xs.length), ¬ cB xs[j].a.nm xs[j + 1].a.nm < 0 → riseB (acs xs) = false) := fun j h hn => by
    cases hr : riseB (acs xs) with
    | false => rfl
    | true => exact absurd (by have := (riseB_adj _).1 hr j (by simpa using h); simpa [acs] using this) hn
  generalize riseB (acs xs) = R at *
  unfold lgA
  go_enter Tryd.func32, Tryd.ntmps32
  go_wp2_with (first | ((with_reducible show wpList _ _ _ ({ dst := some 1, op := Op.box 40 _, type := _, pos := _, after := _, guard := _ } :: _) _ _); refine bxA _ rfl 40 _ rfl _ rfl ?_; intro g1 w1 hg hs1 k1 e1; have X1 := Lib.hid k1; have E1 := Lib.hid e1; obtain ⟨a0, a1⟩ := lg_cells k1; clear hg hs1 k1 e1))
  clear a0 a1
  go_loopw [3] (fun i wr => ∃ m : Nat, (m + 1 ≤ xs.length ∨ m = 0) ∧ i = .int .i64 ((m + 1 : Nat) : Int) ∧ Ext w1 wr ∧ (∀ j (h : j + 1 < xs.length), j < m → cB xs[j].a.nm xs[j + 1].a.nm < 0)) (fun i _ => xs.length - (intOf i).toNat)
  case atStart => exact ⟨0, .inr rfl, rfl, Ext.refl _, fun j h hj => by omega⟩
  case round =>
    obtain ⟨m, hm, rfl, hE, hr⟩ := hrel
    have HR := Lib.hid hr
    have E0 := Lib.hid hE
    have F0 := Lib.hid (E1.out.trans hE)
    clear hr hE
    obtain ⟨a0, a1⟩ := lg_cells (X1.out.ext E0.out)
    by_cases hlt : m + 1 < xs.length
    · have hm0 : m < xs.length := by omega
      obtain ⟨ad, hA, y0, _⟩ := (HB.out.rd.ext F0.out).seven hm0
      obtain ⟨ad2, hA2, x0, _⟩ := (HB.out.rd.ext F0.out).seven hlt
      subst hA
      injection hA2 with hA2
      subst hA2
      have k1 : ((m + 1 : Nat) : Int) < (xs.length : Int) := by omega
      have k2 : (m : Int) < (xs.length : Int) := by omega
      have u1 : IntKind.i64.wrap (((m + 1 : Nat) : Int) - 1) = (m : Int) := by rw [IntWalk.i64_in _ (by omega)]; omega
      have u2 : IntKind.i64.wrap (((m + 1 : Nat) : Int) + 1) = ((m + 2 : Nat) : Int) := by rw [IntWalk.i64_in _ (by omega)]; omega
      have HLQ := Lib.hid (leq_cB xs[m + 1].a.ten xs[m].a.ten)
      have HFm := Lib.hid (HF.out m hlt)
      have HRm : Hid (cB xs[m].a.nm xs[m + 1].a.nm < 0 → ∀ j (h : j + 1 < xs.length), j < m + 1 → cB xs[j].a.nm xs[j + 1].a.nm < 0) := fun h j hj hjm => by
        rcases Nat.lt_or_ge j m with h2 | h2
        · exact HR.out j hj h2
        · obtain rfl : j = m := by omega
          exact h
      have HV : Hid (cB xs[m].a.nm xs[m + 1].a.nm = cB xs[m].a.ten.data.toList xs[m + 1].a.ten.data.toList) := rfl
      generalize cB xs[m].a.nm xs[m + 1].a.nm = v at *
      rw [← HV.out] at HLQ
      generalize xs[m + 1].a.ten = S at *
      generalize xs[m].a.ten = T at *
      by_cases hv : v < 0
      · have q : (Op.bytesLess S.toList T.toList || S.toList == T.toList) = false := by rw [HLQ.out]; exact decide_eq_false (by omega)
        have HRm2 := Lib.hid (HRm.out hv)
        clear HRm HFm HLQ HV
        go_wp2_with fail
        go_quiet (fail)
        go_wp2_with fail
        go_roundw
        case rel => exact ⟨m + 1, by omega, by first | rfl | go_num, E0.out.drewN nq, HRm2.out⟩
        case measure => simp [intOf]; omega
      · have q : (Op.bytesLess S.toList T.toList || S.toList == T.toList) = true := by rw [HLQ.out]; exact decide_eq_true (by omega)
        have HFF := Lib.hid (HFm.out (by omega))
        clear HRm HFm HLQ HV
        go_wp2_with fail
        go_quiet (fail)
        go_wp2_with fail
        go_ret
        rw [HFF.out]
        exact ⟨rfl, F0.out.drewN nq⟩
    · have HFF := Lib.hid (HT.out (fun j h => HR.out j h (by omega)))
      have k1 : ¬ ((m + 1 : Nat) : Int) < (xs.length : Int) := by omega
      go_wp2_with fail
      go_ret
      rw [HFF.out]
      exact ⟨rfl, F0.out⟩

def largeL (l : List Ac) : Bool := (l.take 12).any largeB || decide (12 < l.length)
set_option maxHeartbeats 4000000 in
theorem rlargeL_calls (seq : Nat) (A : Option Addr) (c : Nat) (xs : List Ax) (w : World) (hb : RdL w A xs) (hl : xs.length ≤ 9223372036854775807) :
    Calls Tryd.prog 22 #[lgA seq A xs.length c] w (RetV w (.bool (largeL (acs xs)))) := by
  have HB := Lib.hid hb
  clear hb
  unfold lgA
  go_enter Tryd.func22, Tryd.ntmps22
  go_wp2_with (first | ((with_reducible show wpList _ _ _ ({ dst := some 1, op := Op.box 40 _, type := _, pos := _, after := _, guard := _ } :: _) _ _); refine bxA _ rfl 40 _ rfl _ rfl ?_; intro g1 w1 hg hs1 k1 e1; have X1 := Lib.hid k1; have E1 := Lib.hid e1; obtain ⟨a0, a1⟩ := lg_cells k1; clear hg hs1 k1 e1))
  clear a0 a1
  go_loopw [3] (fun i wr => ∃ k : Nat, k ≤ xs.length ∧ k ≤ 12 ∧ i = .int .i64 k ∧ Ext w1 wr ∧ ((acs xs).take k).any largeB = false) (fun i _ => xs.length - (intOf i).toNat)
  case atStart => exact ⟨0, by omega, by omega, rfl, Ext.refl _, rfl⟩
  case round =>
    obtain ⟨k, hk, hk4, rfl, hE, ht⟩ := hrel
    have Ht := Lib.hid ht
    have E0 := Lib.hid hE
    have F0 := Lib.hid (E1.out.trans hE)
    clear ht hE
    obtain ⟨a0, a1⟩ := lg_cells (X1.out.ext E0.out)
    by_cases hlt : k < xs.length ∧ k < 12
    · obtain ⟨hl1, hl2⟩ := hlt
      obtain ⟨ad, rfl, x0, x1, x2, x3, x4, x5, x6⟩ := (HB.out.rd.ext F0.out).seven hl1
      have HX := Lib.hid ((HB.out.each _ (List.getElem_mem hl1)).ext F0.out)
      have HN : Hid (largeB xs[k].a = false → ((acs xs).take (k + 1)).any largeB = false) := fun h => any_take_false (by simpa using hl1) Ht.out (by simpa [acs] using h)
      have HY : Hid (largeB xs[k].a = true → largeL (acs xs) = true) := by
        intro h
        unfold largeL
        have : ((acs xs).take 12).any largeB = true := List.any_eq_true.2 ⟨xs[k].a, List.mem_take_iff_getElem.2 ⟨k, by simp; omega, by simp [acs]⟩, h⟩
        rw [this]; rfl
      generalize xs[k] = x at *
      have HLA : Hid (Calls Tryd.prog 12 #[(.agg #[.string x.a.ten, .int .u64 x.a.cap, .int .u64 x.a.used, .int .u64 x.a.bits, .int .u64 x.a.per, .slice x.AL x.a.ls.length x.cL, .slice x.AC x.a.cl.length x.cC])] wr (RetV wr (.bool (largeB x.a)))) := rlarge_calls x.a x.AL x.AC x.cL x.cC wr HX.out.rd (by have := HX.out.ll; have := HX.out.ml; omega) (by have := HX.out.lc; have := HX.out.mc; omega) HX.out.ten HX.out.cok
      generalize largeB x.a = b at *
      have k1 : (k : Int) < (xs.length : Int) := by omega
      have k2 : decide ((k : Int) < 12) = true := by simp; omega
      cases b with
      | true =>
        have HF := Lib.hid (HY.out rfl)
        clear HN HY
        go_wp2_with fail
        refine HLA.out.mono ?_
        rintro e w5 ⟨rfl, e5⟩
        have F5 := Lib.hid (F0.out.trans e5)
        clear e5
        go_wp2_with fail
        go_ret
        rw [HF.out]
        exact ⟨rfl, F5.out⟩
      | false =>
        have HF := Lib.hid (HN.out rfl)
        clear HN HY
        go_wp2_with fail
        refine HLA.out.mono ?_
        rintro e w5 ⟨rfl, e5⟩
        have E5 := Lib.hid (E0.out.trans e5)
        clear e5 a0 a1
        go_wp2_with fail
        go_roundw
        case rel => exact ⟨k + 1, by omega, by omega, by go_num, E5.out, HF.out⟩
        case measure => simp [intOf]; omega
    · have HF : Hid (largeL (acs xs) = decide (12 < xs.length)) := by
        show _ = _
        unfold largeL
        rw [acs, List.length_map]
        by_cases h12 : 12 < xs.length
        · simp [h12]
        · have h2 : k = xs.length := by omega
          have h3 := Ht.out
          rw [List.take_of_length_le (by simp [acs]; omega)] at h3 ⊢
          rw [h3]; rfl
      by_cases hkl : k < xs.length
      · have k1 : (k : Int) < (xs.length : Int) := by omega
        have k2 : decide ((k : Int) < 12) = false := by simp; omega
        go_wp2_with fail
        go_ret
        rw [HF.out]
        refine ⟨ret_boolW ?_, F0.out⟩
        rw [Bool.eq_iff_iff]; simp; omega
      · have k1 : ¬ (k : Int) < (xs.length : Int) := by omega
        go_wp2_with fail
        go_ret
        rw [HF.out]
        refine ⟨ret_boolW ?_, F0.out⟩
        rw [Bool.eq_iff_iff]; simp; omega

theorem findR_hit {l : List Ac} {s : ByteArray} {k : Nat} (hk : k < l.length) (h0 : ∀ j (h : j < l.length), j < k → l[j].ten ≠ s) (h1 : l[k].ten = s) : findR l s = (k : Int) := by
  have ht : thereB l s.data.toList = true := List.any_eq_true.2 ⟨l[k], List.getElem_mem hk, decide_eq_true (Ac.nm_eq.2 h1)⟩
  unfold findR
  rw [if_pos ht]
  congr 1
  refine (List.findIdx_eq hk).2 ⟨decide_eq_true h1, fun j hj => decide_eq_false (h0 j (by omega) hj)⟩
theorem findR_none {l : List Ac} {s : ByteArray} (h0 : ∀ j (h : j < l.length), l[j].ten ≠ s) : findR l s = -1 := by
  unfold findR
  have : thereB l s.data.toList = false := List.any_eq_false.2 fun x hx hd => by
    obtain ⟨j, hj, rfl⟩ := List.mem_iff_getElem.1 hx
    exact h0 j hj (Ac.nm_eq.1 (of_decide_eq_true hd))
  rw [this]; rfl
theorem findR_acc {l : List Ac} {s : ByteArray} (h : thereB l s.data.toList = true) : ∃ k, ∃ hk : k < l.length, findR l s = (k : Int) ∧ l[k] = accOf l s := by
  have h1 : ∃ x ∈ l, decide (x.ten = s) = true := by
    obtain ⟨x, hx, hd⟩ := List.any_eq_true.1 h
    exact ⟨x, hx, decide_eq_true (Ac.nm_eq.1 (of_decide_eq_true hd))⟩
  have hk := List.findIdx_lt_length_of_exists h1
  refine ⟨_, hk, by unfold findR; rw [if_pos h], ?_⟩
  unfold accOf
  rw [List.find?_eq_getElem?_findIdx, List.getElem?_eq_getElem hk]
  rfl

set_option maxHeartbeats 4000000 in
theorem rfind_calls (seq : Nat) (A : Option Addr) (c : Nat) (xs : List Ax) (s : ByteArray) (w : World) (hb : RdL w A xs) (hl : xs.length ≤ 9223372036854775807) :
    Calls Tryd.prog 85 #[lgA seq A xs.length c, .string s] w (RetV w (.int .i64 (findR (acs xs) s))) := by
  have HB := Lib.hid hb
  clear hb
  have HT : Hid (∀ k (hk : k < xs.length), (∀ j (h : j < xs.length), j < k → xs[j].a.ten ≠ s) → xs[k].a.ten = s → findR (acs xs) s = (k : Int)) := fun k hk h0 h1 =>
    findR_hit (by simpa using hk) (fun j h hj => by have := h0 j (by simpa using h) hj; simpa [acs] using this) (by simpa [acs] using h1)
  have HF : Hid ((∀ j (h : j < xs.length), xs[j].a.ten ≠ s) → findR (acs xs) s = -1) := fun h0 => findR_none (fun j h => by have := h0 j (by simpa using h); simpa [acs] using this)
  generalize findR (acs xs) s = R at *
  unfold lgA
  go_enter Tryd.func85, Tryd.ntmps85
  go_wp2_with (first | ((with_reducible show wpList _ _ _ ({ dst := some 2, op := Op.box 40 _, type := _, pos := _, after := _, guard := _ } :: _) _ _); refine bxA _ rfl 40 _ rfl _ rfl ?_; intro g1 w1 hg hs1 k1 e1; have X1 := Lib.hid k1; have E1 := Lib.hid e1; obtain ⟨a0, a1⟩ := lg_cells k1; clear hg hs1 k1 e1))
  clear a0 a1
  go_loopw [5] (fun i wr => ∃ k : Nat, k ≤ xs.length ∧ i = .int .i64 k ∧ Ext w1 wr ∧ (∀ j (h : j < xs.length), j < k → xs[j].a.ten ≠ s)) (fun i _ => xs.length - (intOf i).toNat)
  case atStart => exact ⟨0, by omega, rfl, Ext.refl _, fun j h hj => by omega⟩
  case round =>
    obtain ⟨k, hk, rfl, hE, hr⟩ := hrel
    have HR := Lib.hid hr
    have E0 := Lib.hid hE
    have F0 := Lib.hid (E1.out.trans hE)
    clear hr hE
    obtain ⟨a0, a1⟩ := lg_cells (X1.out.ext E0.out)
    by_cases hlt : k < xs.length
    · obtain ⟨ad, rfl, x0, _⟩ := (HB.out.rd.ext F0.out).seven hlt
      have k1 : (k : Int) < (xs.length : Int) := by omega
      have HQ := Lib.hid (str_beq xs[k].a.ten s)
      have HTk := Lib.hid (HT.out k hlt HR.out)
      have HRk : Hid (xs[k].a.ten ≠ s → ∀ j (h : j < xs.length), j < k + 1 → xs[j].a.ten ≠ s) := fun h j hj hjk => by
        rcases Nat.lt_or_ge j k with h2 | h2
        · exact HR.out j hj h2
        · obtain rfl : j = k := by omega
          exact h
      generalize xs[k].a.ten = T at *
      by_cases ht : T = s
      · have q : (T.toList == s.toList) = true := by rw [HQ.out]; exact decide_eq_true ht
        have HFF := Lib.hid (HTk.out ht)
        clear HTk HRk HQ ht
        go_wp2_with fail
        go_ret
        rw [HFF.out]
        exact ⟨rfl, F0.out⟩
      · have q : (T.toList == s.toList) = false := by rw [HQ.out]; exact decide_eq_false ht
        have HFF := Lib.hid (HRk.out ht)
        clear HTk HRk HQ ht
        go_wp2_with fail
        go_roundw
        case rel => exact ⟨k + 1, by omega, by go_num, E0.out, HFF.out⟩
        case measure => simp [intOf]; omega
    · have HFF := Lib.hid (HF.out (fun j h => HR.out j h (by omega)))
      have k1 : ¬ (k : Int) < (xs.length : Int) := by omega
      go_wp2_with fail
      go_ret
      rw [HFF.out]
      exact ⟨rfl, F0.out⟩

/-- an account that has nothing, by value -/
def axNone (s : ByteArray) : Ax := ⟨acNone s, none, 0, none, 0⟩
theorem axNone_in {w : World} {s : ByteArray} (hs : s.size ≤ 9223372036854775807) : (axNone s).in_ w :=
  ⟨⟨RdE.nil, RdE.nil⟩, fun _ => rfl, fun _ => rfl, Nat.le_refl _, Nat.le_refl _, Nat.zero_le _, Nat.zero_le _, by simp [axNone, acNone], by simp [axNone, acNone], hs, by show 0 < _; decide, by show 0 < _; decide, by show 0 < _; decide, by show 0 < _; decide⟩
/-- an account of a list, or none's, is handed back by value -/
def RetAx (w : World) (xs : List Ax) (s : ByteArray) (e : Ending) (w' : World) : Prop := ∃ x : Ax, (x ∈ xs ∨ x = axNone s) ∧ x.a = accOf (acs xs) s ∧ e = .returned (acA x.a x.AL x.cL x.AC x.cC) ∧ Ext w w'
set_option maxHeartbeats 4000000 in
theorem raccount_calls (seq : Nat) (A : Option Addr) (c : Nat) (xs : List Ax) (s : ByteArray) (w : World) (hb : RdL w A xs) (hl : xs.length ≤ 9223372036854775807) :
    Calls Tryd.prog 38 #[lgA seq A xs.length c, .string s] w (RetAx w xs s) := by
  have HB := Lib.hid hb
  have HF : Hid (∀ W, Ext w W → Calls Tryd.prog 85 #[.agg #[.int .u64 seq, .slice A xs.length c], .string s] W (RetV W (.int .i64 (findR (acs xs) s)))) := fun W e => rfind_calls seq A c xs s W (hb.ext e) hl
  clear hb
  have HV : Hid ((findR (acs xs) s = -1 ∧ acNone s = accOf (acs xs) s) ∨ ∃ k, ∃ hk : k < xs.length, findR (acs xs) s = (k : Int) ∧ xs[k].a = accOf (acs xs) s) := by
    cases ht : thereB (acs xs) s.data.toList with
    | true =>
      obtain ⟨k, hk, h1, h2⟩ := findR_acc ht
      exact .inr ⟨k, by simpa using hk, h1, by simpa [acs] using h2⟩
    | false => exact .inl ⟨by unfold findR; rw [ht]; rfl, (acc_none ht).symm⟩
  unfold lgA
  go_enter Tryd.func38, Tryd.ntmps38
  go_wp2_with (first
    | ((with_reducible show wpList _ _ _ ({ dst := some 2, op := Op.box 40 _, type := _, pos := _, after := _, guard := _ } :: _) _ _); refine bxA _ rfl 40 _ rfl _ rfl ?_; intro g1 w1 hg hs1 k1 e1; have X1 := Lib.hid k1; have E1 := Lib.hid e1; clear hg hs1 k1 e1)
    | ((with_reducible show wpList _ _ _ ({ dst := some 4, op := Op.alloc 26, type := _, pos := _, after := _, guard := _ } :: _) _ _); refine alA _ rfl 26 rfl _ _ zero_acct ?_; intro g4 w4 hg hs1 k1 e1; have X4 := Lib.hid (X1.out.ext e1); have Y4 := Lib.hid k1; have G4 := Lib.hid (show w.heap.size ≤ g4 from by have := E1.out.size; omega); have E4 := Lib.hid (E1.out.trans e1); obtain ⟨a0, a1⟩ := lg_cells X4.out; clear hg hs1 k1 e1 E1 X1))
  refine (HF.out _ E4.out).mono ?_
  rintro e w5 ⟨rfl, e5⟩
  have X5 := Lib.hid (X4.out.ext e5)
  have Y5 := Lib.hid (Y4.out.ext e5)
  have E5 := Lib.hid (E4.out.trans e5)
  clear e5 a0 a1 HF X4 Y4 E4
  obtain ⟨a0, a1⟩ := lg_cells X5.out
  rcases HV.out with ⟨h1, h2⟩ | ⟨k, hk, h1, h2⟩
  · have H2 := Lib.hid h2
    generalize findR (acs xs) s = R at *
    subst h1
    clear HV h2
    go_wp2_with (first
      | ((with_reducible show wpList _ _ _ ({ dst := none, op := Op.store 26 _ _, type := _, pos := _, after := _, guard := _ } :: _) _ _); refine stA _ rfl 26 26 _ _ rfl g4 _ (acV (acNone s) none 0 none 0) rfl rfl Y5.out size_acct rfl (ac_one _ _ _ _ _) ?_; intro w6 hs k4 g6; have Y6 := Lib.hid k4; have E6 := Lib.hid (E5.out.grown g6 (fun k hk => by injection hk with hk; have := G4.out; omega)); clear hs k4 g6))
    exact ret_row Tryd.results38 g4 _ _ _ rfl Y6.out Tryd.underlying26 rfl size_acct ⟨axNone s, .inr rfl, H2.out, rfl, E6.out⟩
  · have H2 := Lib.hid h2
    have HM := Lib.hid (List.getElem_mem hk)
    have HX := Lib.hid ((HB.out.each _ (List.getElem_mem hk)))
    generalize findR (acs xs) s = R at *
    subst h1
    clear HV h2
    obtain ⟨ad, rfl, x0, x1, x2, x3, x4, x5, x6⟩ := (HB.out.rd.ext E5.out).seven hk
    have k1 : (k : Int) < (xs.length : Int) := by omega
    have k2 : decide ((k : Int) < 0) = false := by simp
    generalize xs[k] = x at *
    go_wp2_with (first
      | ((with_reducible show wpList _ _ _ ({ dst := none, op := Op.store 26 _ _, type := _, pos := _, after := _, guard := _ } :: _) _ _); refine stA _ rfl 26 26 _ _ rfl g4 _ (acV x.a x.AL x.cL x.AC x.cC) rfl rfl Y5.out size_acct rfl (ac_one _ _ _ _ _) ?_; intro w6 hs k4 g6; have Y6 := Lib.hid k4; have E6 := Lib.hid (E5.out.grown g6 (fun k hk => by injection hk with hk; have := G4.out; omega)); clear hs k4 g6))
    exact ret_row Tryd.results38 g4 _ _ _ rfl Y6.out Tryd.underlying26 rfl size_acct ⟨x, .inl HM.out, H2.out, rfl, E6.out⟩
end Go.Proofs.YtkbjnlbbfapgdaaDoor

namespace Go.Proofs.YtkbjnlbbfapgdaaDoor
open Go.RowKit

theorem RdE.lt {α : Type} {cs : α → List Value} {k : Nat} {w : World} {A : Option Addr} {xs : List α} (hk : ∀ x, (cs x).length = k) (h0 : 0 < k) (h : RdE cs w A xs) (hne : xs ≠ []) : ∀ g, blk A = some g → g < w.heap.size := by
  have hp : 0 < xs.length := List.length_pos_iff.2 hne
  obtain ⟨ad, rfl, hc⟩ := RdE.at_ hk h hp h0
  intro g hg
  have hz : 0 < (cs xs[0]).length := by rw [hk]; exact h0
  obtain ⟨u, hu⟩ : ∃ u, (cs xs[0])[0]? = some u := ⟨(cs xs[0])[0], List.getElem?_eq_getElem hz⟩
  have h1 := hc 0 u hu
  simp only [World.cell?] at h1
  have hgb : ad.block = g := by simpa [blk] using hg
  cases hh : w.heap[g]? with
  | none => simp [Addr.add, hgb, hh] at h1
  | some b => exact (Array.getElem?_eq_some_iff.1 hh).1
/-- an account's lists lie apart from a row -/
def Ax.ap (x : Ax) (A : Option Addr) : Prop := (x.a.ls ≠ [] → ∀ k, blk x.AL = some k → blk A ≠ some k) ∧ (x.a.cl ≠ [] → ∀ k, blk x.AC = some k → blk A ≠ some k)
theorem Ax.fresh {w : World} {x : Ax} {A : Option Addr} (h : x.in_ w) (hA : blk A = some w.heap.size) : x.ap A := by
  refine ⟨fun hn k hk he => ?_, fun hn k hk he => ?_⟩
  · have := RdE.lt (k := 2) (fun _ => rfl) (by decide) h.rd.1 hn k hk
    rw [hA] at he; injection he; omega
  · have := RdE.lt (k := 6) (fun _ => rfl) (by decide) h.rd.2 hn k hk
    rw [hA] at he; injection he; omega
theorem Ax.keep {w w1 : World} {x : Ax} {A : Option Addr} (h : x.in_ w) (ha : x.ap A) (hg : w.grownBy w1 (blk A)) : x.in_ w1 := by
  refine ⟨⟨?_, ?_⟩, h.nl, h.nc, h.ll, h.lc, h.ml, h.mc, h.lok, h.cok, h.ten, h.cap, h.used, h.bits, h.per⟩
  · by_cases hn : x.a.ls = []
    · rw [hn]; exact RdE.nil
    · exact RdE.grown h.rd.1 hg fun ad he => fun hb => ha.1 hn ad.block (by rw [he]; rfl) hb.symm
  · by_cases hn : x.a.cl = []
    · rw [hn]; exact RdE.nil
    · exact RdE.grown h.rd.2 hg fun ad he => fun hb => ha.2 hn ad.block (by rw [he]; rfl) hb.symm
theorem OwnA.in_ {w : World} {base : Nat} {a : Ac} {AL AC : Option Addr} {cL cC : Nat} (h : OwnA w base a AL cL AC cC) (hok : a.ok) : AcIn w a AL cL AC cC :=
  ⟨h.rd, h.1.none_cap, h.2.1.none_cap, h.1.cap, h.2.1.cap, h.1.capmax, h.2.1.capmax, hok.2.2.2.2.2.1, hok.2.2.2.2.2.2.1, by have := hok.1; omega, hok.2.1, hok.2.2.1, hok.2.2.2.1, hok.2.2.2.2.1⟩
/-- an account of the call's own lies apart from a row that was there -/
theorem OwnA.ap {w : World} {base : Nat} {a : Ac} {AL AC A : Option Addr} {cL cC : Nat} (h : OwnA w base a AL cL AC cC) (hA : ∀ k, blk A = some k → k < base) : (Ax.mk a AL cL AC cC).ap A := by
  refine ⟨fun _ k hk he => ?_, fun _ k hk he => ?_⟩
  · have := (h.1.base_ k hk).1; have := hA k he; omega
  · have := (h.2.1.base_ k hk).1; have := hA k he; omega
/-- an account's lists are new -/
def Ax.hi (x : Ax) (b : Nat) : Prop := (x.a.ls ≠ [] → ∀ k, blk x.AL = some k → b ≤ k) ∧ (x.a.cl ≠ [] → ∀ k, blk x.AC = some k → b ≤ k)
theorem OwnA.hi {w : World} {base b : Nat} {a : Ac} {AL AC : Option Addr} {cL cC : Nat} (h : OwnA w base a AL cL AC cC) (hb : b ≤ base) : (Ax.mk a AL cL AC cC).hi b :=
  ⟨fun _ k hk => by have := (h.1.base_ k hk).1; omega, fun _ k hk => by have := (h.2.1.base_ k hk).1; omega⟩
/-- the accounts of a ledger that is the call's own -/
def OwnL (w : World) (base : Nat) (A : Option Addr) (c : Nat) (xs : List Ax) : Prop :=
  OwnV w base 26 7 A xs.length c (xs.flatMap Ax.cs) ∧ ∀ x ∈ xs, x.in_ w ∧ x.a.ok ∧ x.ap A ∧ x.hi base
/-- a block that is neither of a row's nor of its accounts' -/
def OffL (A : Option Addr) (xs : List Ax) (g : Nat) : Prop := Off A g ∧ ∀ x ∈ xs, (x.a.ls ≠ [] → Off x.AL g) ∧ (x.a.cl ≠ [] → Off x.AC g)
section ol
variable {w w1 w8 : World} {base : Nat} {A A8 : Option Addr} {c c8 : Nat} {xs : List Ax} {x : Ax}
theorem OwnL.nil (w : World) (base : Nat) : OwnL w base none 0 [] := ⟨OwnV.nil _ _ _ _, by simp⟩
theorem OwnL.rdl (h : OwnL w base A c xs) : RdL w A xs := ⟨h.1.rde, fun x hx => (h.2 x hx).1⟩
theorem OwnL.ext (h : OwnL w base A c xs) (e : Ext w w1) : OwnL w1 base A c xs := ⟨h.1.ext e, fun x hx => ⟨(h.2 x hx).1.ext e, (h.2 x hx).2⟩⟩
theorem OwnL.lower {b : Nat} (h : OwnL w base A c xs) (hb : b ≤ base) : OwnL w b A c xs := ⟨h.1.lower hb, fun x hx => by
  obtain ⟨h1, h2, h3, h4⟩ := h.2 x hx
  exact ⟨h1, h2, h3, fun hn k hk => Nat.le_trans hb (h4.1 hn k hk), fun hn k hk => Nat.le_trans hb (h4.2 hn k hk)⟩⟩
theorem OwnL.off {g : Nat} (h : OwnL w base A c xs) (hg : g < base ∨ w.heap.size ≤ g) : OffL A xs g := by
  refine ⟨fun k hk => by have := h.1.base_ k hk; omega, fun x hx => ?_⟩
  obtain ⟨h1, h2, h3, h4⟩ := h.2 x hx
  refine ⟨fun hn k hk => ?_, fun hn k hk => ?_⟩
  · have e1 := RdE.lt (k := 2) (fun _ => rfl) (by decide) h1.rd.1 hn k hk
    have e2 := h4.1 hn k hk
    omega
  · have e1 := RdE.lt (k := 6) (fun _ => rfl) (by decide) h1.rd.2 hn k hk
    have e2 := h4.2 hn k hk
    omega
theorem OwnL.keep {g : Nat} (h : OwnL w base A c xs) (hg : w.grownBy w1 (some g)) (ho : OffL A xs g) : OwnL w1 base A c xs := by
  obtain ⟨hA, hx⟩ := ho
  refine ⟨h.1.keep hg hA.row, fun x hm => ?_⟩
  obtain ⟨h1, h2, h3⟩ := h.2 x hm
  refine ⟨?_, h2, h3⟩
  have := Ax.keep (A := some ⟨g, 0, none⟩) h1 ⟨fun hn k hk he => (hx x hm).1 hn k hk (by injection he with he; exact he.symm), fun hn k hk he => (hx x hm).2 hn k hk (by injection he with he; exact he.symm)⟩ hg
  exact this
/-- one account more -/
theorem OwnL.snoc (O : OwnL w base A c xs) (hx : x.in_ w) (hok : x.a.ok) (hap : x.ap A) (hhi : x.hi base) (h8 : OwnV w8 base 26 7 A8 (xs.length + 1) c8 (xs.flatMap Ax.cs ++ x.cs)) (g8 : w.grownBy w8 (blk A)) (hb : blk A8 = blk A ∨ blk A8 = some w.heap.size) : OwnL w8 base A8 c8 (xs ++ [x]) := by
  refine ⟨by simpa using h8, fun y hy => ?_⟩
  have hy' : y.in_ w ∧ y.a.ok ∧ y.ap A ∧ y.hi base := by
    rcases List.mem_append.1 hy with hy | hy
    · exact O.2 y hy
    · obtain rfl : y = x := by simpa using hy
      exact ⟨hx, hok, hap, hhi⟩
  refine ⟨Ax.keep hy'.1 hy'.2.2.1 g8, hy'.2.1, ?_, hy'.2.2.2⟩
  rcases hb with hb | hb
  · obtain ⟨h1, h2⟩ := hy'.2.2.1
    exact ⟨fun hn k hk => by rw [hb]; exact h1 hn k hk, fun hn k hk => by rw [hb]; exact h2 hn k hk⟩
  · exact Ax.fresh hy'.1 hb
end ol
theorem lg_one (seq : Nat) (A : Option Addr) (n c : Nat) : ∀ v ∈ (#[.int .u64 seq, .slice A n c] : Array Value), v.oneCell' = true := by
  intro v hv
  simp at hv
  rcases hv with rfl | rfl <;> rfl
theorem zero_lg : (Tryd.prog.info? 40).map (fun i => (i.zero, i.size)) = some (some (.agg #[.int .u64 0, .slice none 0 0]), 2) := by kernel_rfl
theorem size_lg : (Tryd.prog.info? 40).map (·.size) = some 2 := by kernel_rfl
theorem size_acl : (Tryd.prog.info? 38).map (·.size) = some 1 := by kernel_rfl
theorem info_acct : (Tryd.prog.info? 26).map (fun i => (i.zero, i.size, i.bytes)) = some (some (.agg (acV Ac0 none 0 none 0)), 7, 96) := by kernel_rfl
end Go.Proofs.YtkbjnlbbfapgdaaDoor

namespace Go.Proofs.YtkbjnlbbfapgdaaDoor
open Go.RowKit

/-- a ledger of the call's own is handed back -/
def RetL (w : World) (seq : Nat) (l : List Ac) (e : Ending) (w' : World) : Prop := ∃ A c, ∃ xs : List Ax, e = .returned (lgA seq A xs.length c) ∧ acs xs = l ∧ OwnL w' w.heap.size A c xs ∧ Ext w w'
theorem acs_get {xs : List Ax} {k : Nat} (hk : k < xs.length) : (acs xs)[k]? = some xs[k].a := by rw [List.getElem?_map, List.getElem?_eq_getElem hk]; rfl
theorem acs_snoc (xs : List Ax) (x : Ax) : acs (xs ++ [x]) = acs xs ++ [x.a] := by simp
theorem acs_len (xs : List Ax) : (acs xs).length = xs.length := by simp
theorem ax_one (x : Ax) : ∀ u ∈ x.cs, u.oneCell' = true := by intro u hu; simp [Ax.cs] at hu; rcases hu with rfl | rfl | rfl | rfl | rfl | rfl | rfl <;> rfl

set_option maxHeartbeats 8000000 in
theorem lgclone_calls (seq : Nat) (A : Option Addr) (c : Nat) (xs : List Ax) (w : World) (hb : RdL w A xs) (hok : ∀ x ∈ xs, x.a.ok) (hl : xs.length ≤ 100000) :
    Calls Tryd.prog 47 #[lgA seq A xs.length c] w (RetL w seq (acs xs)) := by
  have HB := Lib.hid hb
  have HOK := Lib.hid hok
  clear hb hok
  unfold lgA
  go_enter Tryd.func47, Tryd.ntmps47
  go_wp2_with (first
    | ((with_reducible show wpList _ _ _ ({ dst := some 1, op := Op.box 40 _, type := _, pos := _, after := _, guard := _ } :: _) _ _); refine bxA _ rfl 40 _ rfl _ rfl ?_; intro g1 w1 hg hs1 k1 e1; have G1 := Lib.hid hg; have X1 := Lib.hid k1; have E1 := Lib.hid e1; clear hg hs1 k1 e1)
    | ((with_reducible show wpList _ _ _ ({ dst := some 2, op := Op.alloc 40, type := _, pos := _, after := _, guard := _ } :: _) _ _); refine alA _ rfl 40 rfl _ _ zero_lg ?_; intro g2 w2 hg hs1 k1 e1; have G2 := Lib.hid (show g1 < g2 ∧ g2 < w2.heap.size ∧ w.heap.size ≤ g1 from ⟨by have := X1.out.lt; omega, k1.lt, by have := G1.out; omega⟩); have X2 := Lib.hid (X1.out.ext e1); have Y2 := Lib.hid k1; have E2 := Lib.hid (E1.out.trans e1); obtain ⟨a0, a1⟩ := lg_cells X2.out; clear hg hs1 k1 e1 X1 E1 G1))
  go_loopw [3, 9] (fun s i wr => ∃ A' c', ∃ ys : List Ax, ys.length ≤ xs.length ∧ s = .slice A' ys.length c' ∧ i = .int .i64 (ys.length : Nat) ∧ acs ys = (acs xs).take ys.length ∧ OwnL wr w2.heap.size A' c' ys ∧ Ext w2 wr) (fun _ i _ => xs.length - (intOf i).toNat)
  case atStart => exact ⟨none, 0, [], by simp, rfl, rfl, by simp, OwnL.nil _ _, Ext.refl _⟩
  case round =>
    obtain ⟨A', c', ys, hk, rfl, rfl, hy, hO, hE⟩ := hrel
    have HY := Lib.hid hy
    have O0 := Lib.hid hO
    have E0 := Lib.hid hE
    have F0 := Lib.hid (E2.out.trans hE)
    clear hy hO hE
    by_cases hlt : ys.length < xs.length
    · have HX := Lib.hid ((HB.out.each _ (List.getElem_mem hlt)))
      have HG := Lib.hid (acs_get hlt)
      have OX := Lib.hid (HOK.out _ (List.getElem_mem hlt))
      obtain ⟨ad, rfl, x0, x1, x2, x3, x4, x5, x6⟩ := (HB.out.rd.ext F0.out).seven hlt
      have k1 : (ys.length : Int) < (xs.length : Int) := by omega
      clear a0 a1
      generalize xs[ys.length] = x at *
      have HCL : Hid (∀ W, Ext w W → Calls Tryd.prog 21 #[(.agg #[.string x.a.ten, .int .u64 x.a.cap, .int .u64 x.a.used, .int .u64 x.a.bits, .int .u64 x.a.per, .slice x.AL x.a.ls.length x.cL, .slice x.AC x.a.cl.length x.cC])] W fun e w' => ∃ L7 l7 C7 c7, e = .returned (.agg #[.string x.a.ten, .int .u64 x.a.cap, .int .u64 x.a.used, .int .u64 x.a.bits, .int .u64 x.a.per, .slice L7 x.a.ls.length l7, .slice C7 x.a.cl.length c7]) ∧ OwnA w' W.heap.size x.a L7 l7 C7 c7 ∧ Ext W w') := fun W e => aclone_calls x.a x.AL x.AC x.cL x.cC W (HX.out.rd.ext e) HX.out.nl HX.out.nc OX.out.2.2.2.2.2.2.2.1 OX.out.2.2.2.2.2.2.2.2
      go_wp2_with (first
        | ((with_reducible show wpList _ _ _ ({ dst := some 5, op := Op.alloc 26, type := _, pos := _, after := _, guard := _ } :: _) _ _); refine alA _ rfl 26 rfl _ _ zero_acct ?_; intro g5 w5 hg hs1 k3 e3; have X5 := Lib.hid k3; have E5 := Lib.hid (E0.out.trans e3); have T5 := Lib.hid e3; have H5 := Lib.hid (show wr.heap.size ≤ g5 from by omega); have G5 := Lib.hid (show w2.heap.size ≤ g5 from by have := E0.out.size; omega); have O5 := Lib.hid (O0.out.ext e3); have N5 := Lib.hid (show ∀ k, blk A' = some k → k < g5 from fun k hk => by have := O0.out.1.base_ k hk; omega); clear hg hs1 k3 e3 x0 x1 x2 x3 x4 x5 x6)
        | ((with_reducible show wpList _ _ _ ({ dst := none, op := Op.store 26 _ _, type := _, pos := _, after := _, guard := _ } :: _) _ _); refine stA _ rfl 26 26 _ _ rfl g5 _ (acV x.a x.AL x.cL x.AC x.cC) rfl rfl X5.out size_acct rfl (ac_one _ _ _ _ _) ?_; intro w6 hs k4 g4; have E6 := Lib.hid (E5.out.grown g4 (fun k hk => by injection hk with hk; have := G5.out; omega)); have O6 := Lib.hid (show Ext wr w6 from T5.out.grown g4 (fun k hk => by injection hk with hk; have := H5.out; omega)); have X6 := Lib.hid k4; obtain ⟨y0, y1, y2, y3, y4, y5, y6⟩ := ac_cells k4; clear hs k4 g4)
        | (go_at_call 21; refine (HCL.out _ (E2.out.trans E6.out)).mono ?_; rintro e w7 ⟨L7, l7, C7, c7, rfl, o7, e7⟩; have E7 := Lib.hid (E6.out.trans e7); have P7 := Lib.hid o7; have T7 := Lib.hid (O6.out.trans e7); have S7 := Lib.hid (show g5 < w6.heap.size from X6.out.lt); clear o7 e7 y0 y1 y2 y3 y4 y5 y6)
        | (at_builtin; refine appV _ rfl _ _ 38 rfl 26 (.agg (acV Ac0 none 0 none 0)) 7 96 Tryd.underlying38 info_acct rfl (by decide) w2.heap.size A' ys.length c' (ys.flatMap Ax.cs) rfl ⟨w7.heap.size, 0, none⟩ 1 1 (Ax.cs ⟨x.a, L7, l7, C7, c7⟩) rfl ?_ ((O0.out.ext T7.out).ext ((Ext.refl _).alloc _)).1 rfl (cells_new w7 _ _) (ax_one _) (by omega) (by omega) (by have := E7.out.size; simp; omega); intro A8 c8 w8 h8 g8 b8; have E8 := Lib.hid (own_base E7.out (O0.out.ext T7.out).1 ((Ext.refl _).alloc _) (Nat.le_refl _) g8); have O8 := Lib.hid (OwnL.snoc (x := ⟨x.a, L7, l7, C7, c7⟩) ((O0.out.ext T7.out).ext ((Ext.refl _).alloc _)) ((P7.out.in_ OX.out).ext ((Ext.refl _).alloc _)) OX.out (P7.out.ap (fun k hk => by have := N5.out k hk; have := S7.out; omega)) (P7.out.hi (by have := E6.out.size; omega)) h8 g8 b8); clear h8 g8 b8))
      go_roundw
      case rel => exact ⟨A8, c8, ys ++ [⟨x.a, L7, l7, C7, c7⟩], by simp; omega, by simp, by simp, by rw [acs_snoc, HY.out, List.length_append]; exact (take_get HG.out).symm, O8.out, E8.out⟩
      case measure => simp [intOf]; omega
    · have hy : acs ys = acs xs := by rw [HY.out, List.take_of_length_le (by simp; omega)]
      have X3 := Lib.hid (X2.out.ext E0.out)
      have Y3 := Lib.hid (Y2.out.ext E0.out)
      clear a0 a1
      have HOF : Hid (∀ g, g < w2.heap.size → OffL A' ys g) := fun g hg => O0.out.off (.inl hg)
      go_wp2_with (first
        | ((with_reducible show wpList _ _ _ ({ dst := none, op := Op.store 38 _ _, type := _, pos := _, after := _, guard := _ } :: _) _ _); refine stF _ rfl 38 _ _ rfl g1 1 (.slice A' ys.length c') _ _ rfl rfl X3.out (by show 1 < 2; decide) size_acl rfl ?_; intro w4 hs k4 g4; have X4 := Lib.hid (show Arr w4 g1 40 #[.int .u64 seq, .slice A' ys.length c'] from k4); have Y4 := Lib.hid (Y3.out.grown g4 (by have := G2.out.1; intro hh; injection hh; omega)); have E4 := Lib.hid (F0.out.grown g4 (fun k hk => by injection hk with hk; have := G2.out; omega)); have O4 := Lib.hid (O0.out.keep g4 (HOF.out g1 (by have := G2.out; omega))); clear hs k4 g4)
        | ((with_reducible show wpList _ _ _ ({ dst := some 21, op := Op.load 40 _, type := _, pos := _, after := _, guard := _ } :: _) _ _); refine ldA _ rfl 40 40 _ rfl g1 rfl _ _ X4.out Tryd.underlying40 rfl size_lg ?_)
        | ((with_reducible show wpList _ _ _ ({ dst := none, op := Op.store 40 _ _, type := _, pos := _, after := _, guard := _ } :: _) _ _); refine stA _ rfl 40 40 _ _ rfl g2 _ #[.int .u64 seq, .slice A' ys.length c'] rfl rfl Y4.out size_lg rfl (lg_one _ _ _ _) ?_; intro w7 hs k7 g7; have Y7 := Lib.hid k7; have E7 := Lib.hid (E4.out.grown g7 (fun k hk => by injection hk with hk; have := G2.out; omega)); clear hs k7; have O7 := Lib.hid (O4.out.keep g7 (HOF.out g2 (by have := G2.out; omega))); clear g7))
      exact ret_row Tryd.results47 g2 _ _ _ rfl Y7.out Tryd.underlying40 rfl size_lg ⟨A', c', ys, rfl, hy, O7.out.lower (by have := E2.out.size; omega), E7.out⟩
end Go.Proofs.YtkbjnlbbfapgdaaDoor

namespace Go.Proofs.YtkbjnlbbfapgdaaDoor
open Go.RowKit

theorem acNone_ok {s : ByteArray} (hs : s.size ≤ 1000000) : (acNone s).ok := ⟨hs, by show 0 < _; decide, by show 0 < _; decide, by show 0 < _; decide, by show 0 < _; decide, by simp [acNone], by simp [acNone], by simp [acNone], by simp [acNone]⟩
set_option maxHeartbeats 8000000 in
theorem lgcheck_calls (seq : Nat) (A : Option Addr) (c : Nat) (xs : List Ax) (r : Rc) (w : World) (hb : RdL w A xs) (hok : ∀ x ∈ xs, x.a.ok) (hl : xs.length ≤ 100000) (hr : Rises (acs xs)) (hrk : r.ok) (ht : r.ten.size ≤ 1000000) (hs : seq < 18446744073709551616) :
    Calls Tryd.prog 36 #[lgA seq A xs.length c, rcA r] w (RetV w (.int .i64 (chkL seq (acs xs) r))) := by
  have HB := Lib.hid hb
  have HC : Hid (∀ W, Calls Tryd.prog 87 #[(.agg #[.int .u64 r.seq, .int .i64 r.kind, .string r.ten, .int .u64 r.lease, .int .u64 r.n, .int .u64 r.bits])] W (RetV W (.int .i64 (recE r.seq r.kind r.ten r.lease r.n r.bits)))) := fun W => check_calls r.seq r.kind r.ten r.lease r.n r.bits W hrk.2.2.2.1
  have HP : Hid (∀ W, Ext w W → Calls Tryd.prog 88 #[.agg #[.int .u64 seq, .slice A xs.length c], .string r.ten] W (RetV W (.tuple #[.int .i64 (posN (acs xs) r.ten.data.toList), .bool (thereB (acs xs) r.ten.data.toList)]))) := fun W e => place_calls seq A c xs r.ten W (hb.ext e) hl hr
  have HN : Hid (∀ W, Calls Tryd.prog 53 #[(.agg #[.string r.ten, .int .u64 0, .int .u64 0, .int .u64 0, .int .u64 0, .slice none 0 0, .slice none 0 0]), (.agg #[.int .u64 r.seq, .int .i64 r.kind, .string r.ten, .int .u64 r.lease, .int .u64 r.n, .int .u64 r.bits])] W (RetV W (.int .i64 (chkA (acNone r.ten) r)))) := fun W => acheck_calls (acNone r.ten) r none none 0 0 W ⟨RdE.nil, RdE.nil⟩ (acNone_ok ht) hrk
  have HX : Hid (∀ i (hi : i < xs.length), ∀ W, Ext w W → Calls Tryd.prog 53 #[(.agg #[.string xs[i].a.ten, .int .u64 xs[i].a.cap, .int .u64 xs[i].a.used, .int .u64 xs[i].a.bits, .int .u64 xs[i].a.per, .slice xs[i].AL xs[i].a.ls.length xs[i].cL, .slice xs[i].AC xs[i].a.cl.length xs[i].cC]), (.agg #[.int .u64 r.seq, .int .i64 r.kind, .string r.ten, .int .u64 r.lease, .int .u64 r.n, .int .u64 r.bits])] W (RetV W (.int .i64 (chkA xs[i].a r)))) := fun i hi W e => acheck_calls xs[i].a r _ _ _ _ W ((hb.each _ (List.getElem_mem hi)).ext e).rd (hok _ (List.getElem_mem hi)) hrk
  have HT : Hid (thereB (acs xs) r.ten.data.toList = true → ∃ hp : posN (acs xs) r.ten.data.toList < xs.length, accOf (acs xs) r.ten = xs[posN (acs xs) r.ten.data.toList].a) := fun h => by
    obtain ⟨hp, h1, _⟩ := acc_there hr h
    exact ⟨by simpa using hp, by rw [h1]; simp [acs]⟩
  have HF : Hid (thereB (acs xs) r.ten.data.toList = false → accOf (acs xs) r.ten = acNone r.ten) := fun h => acc_none h
  have HV : Hid (chkL seq (acs xs) r = if recE r.seq r.kind r.ten r.lease r.n r.bits ≠ 0 then recE r.seq r.kind r.ten r.lease r.n r.bits
      else if r.seq ≠ (seq + 1) % 18446744073709551616 then 12 else if thereB (acs xs) r.ten.data.toList = false ∧ 8 ≤ xs.length then 15 else chkA (accOf (acs xs) r.ten) r) := by
    show _ = _
    unfold chkL
    rw [acs_len]
  have HS := Lib.hid hs
  have u1 : IntKind.u64.wrap ((seq : Int) + 1) = (((seq + 1) % 18446744073709551616 : Nat) : Int) := by
    rw [IntKind.wrap_u64]; omega
  clear hb hok hr hrk ht hs
  generalize chkL seq (acs xs) r = V at *
  generalize (seq + 1) % 18446744073709551616 = M at *
  generalize recE r.seq r.kind r.ten r.lease r.n r.bits = E at *
  generalize posN (acs xs) r.ten.data.toList = p at *
  generalize thereB (acs xs) r.ten.data.toList = th at *
  unfold lgA rcA
  go_enter Tryd.func36, Tryd.ntmps36
  go_wp2_with (first
    | ((with_reducible show wpList _ _ _ ({ dst := some 2, op := Op.box 40 _, type := _, pos := _, after := _, guard := _ } :: _) _ _); refine bxA _ rfl 40 _ rfl _ rfl ?_; intro g1 w1 hg hs1 k1 e1; have X0 := Lib.hid k1; have E0 := Lib.hid e1; clear hg hs1 k1 e1)
    | ((with_reducible show wpList _ _ _ ({ dst := some 3, op := Op.box 28 _, type := _, pos := _, after := _, guard := _ } :: _) _ _); refine bxA _ rfl 28 _ rfl _ rfl ?_; intro g3 w3 hg hs1 k1 e1; have X3 := Lib.hid k1; have X1 := Lib.hid (X0.out.ext e1); have E1 := Lib.hid (E0.out.trans e1); obtain ⟨r0, r1, r2, r3, r4, r5⟩ := rc_cells k1; clear hg hs1 k1 e1 X0 E0))
  refine (HC.out _).mono ?_
  rintro e w4 ⟨rfl, e4⟩
  have E4 := Lib.hid (E1.out.trans e4)
  have X4 := Lib.hid (X1.out.ext e4)
  have Y4 := Lib.hid (X3.out.ext e4)
  clear e4 r0 r1 r2 r3 r4 r5 X1 X3 E1 HC
  obtain ⟨a0, a1⟩ := lg_cells X4.out
  obtain ⟨r0, r1, r2, r3, r4, r5⟩ := rc_cells Y4.out
  by_cases h0 : E = 0
  · subst h0
    rw [if_neg (by simp)] at HV
    by_cases hm : r.seq = M
    · rw [if_neg (by simpa using hm)] at HV
      have q1 : ((r.seq : Int) != (M : Int)) = false := by simp [hm]
      clear hm
      go_wp2_with fail
      refine (HP.out _ E4.out).mono ?_
      rintro e w5 ⟨rfl, e5⟩
      have E5 := Lib.hid (E4.out.trans e5)
      have X5 := Lib.hid (X4.out.ext e5)
      have Y5 := Lib.hid (Y4.out.ext e5)
      clear e5 r0 r1 r2 r3 r4 r5 a0 a1 X4 Y4 E4 HP
      cases th with
      | true =>
        obtain ⟨hp, h1⟩ := HT.out rfl
        rw [if_neg (by simp), h1] at HV
        have HXp := Lib.hid (HX.out p hp)
        obtain ⟨ad, hA, _⟩ := (HB.out.rd.ext E5.out).seven hp
        have HSV : Hid (∀ W, Ext w5 W → _) := fun W e => (HB.out.rd.ext (E5.out.trans e)).seven hp
        subst hA
        have k1 : (p : Int) < (xs.length : Int) := by omega
        clear HX HT HF h1
        generalize xs[p] = x at *
        generalize chkA x.a r = v at *
        have HVV := Lib.hid HV.out
        clear HV
        have KS : Hid (∀ W, Ext w5 W → W.cell? ⟨g1, 1, none⟩ = some (.slice (some ad) xs.length c) ∧ (W.cell? (ad.add (p * 7)) = some (.string x.a.ten) ∧ W.cell? ⟨(ad.add (p * 7)).block, (ad.add (p * 7)).off + 1, none⟩ = some (.int .u64 x.a.cap) ∧ W.cell? ⟨(ad.add (p * 7)).block, (ad.add (p * 7)).off + 2, none⟩ = some (.int .u64 x.a.used) ∧
    W.cell? ⟨(ad.add (p * 7)).block, (ad.add (p * 7)).off + 3, none⟩ = some (.int .u64 x.a.bits) ∧ W.cell? ⟨(ad.add (p * 7)).block, (ad.add (p * 7)).off + 4, none⟩ = some (.int .u64 x.a.per) ∧ W.cell? ⟨(ad.add (p * 7)).block, (ad.add (p * 7)).off + 5, none⟩ = some (.slice x.AL x.a.ls.length x.cL) ∧ W.cell? ⟨(ad.add (p * 7)).block, (ad.add (p * 7)).off + 6, none⟩ = some (.slice x.AC x.a.cl.length x.cC)) ∧
            (W.cell? ⟨g3, 0, none⟩ = some (.int .u64 r.seq) ∧ W.cell? ⟨g3, 1, none⟩ = some (.int .i64 r.kind) ∧ W.cell? ⟨g3, 2, none⟩ = some (.string r.ten) ∧ W.cell? ⟨g3, 3, none⟩ = some (.int .u64 r.lease) ∧ W.cell? ⟨g3, 4, none⟩ = some (.int .u64 r.n) ∧ W.cell? ⟨g3, 5, none⟩ = some (.int .u64 r.bits))) := fun W e => ⟨(X5.out.ext e).cell 1, by
              obtain ⟨ad', h1, h2⟩ := HSV.out W e
              injection h1 with h1
              subst h1
              exact h2, rc_cells (Y5.out.ext e)⟩
        have HC2 : Hid (∀ W, Ext w5 W → Calls Tryd.prog 53 #[(.agg #[.string x.a.ten, .int .u64 x.a.cap, .int .u64 x.a.used, .int .u64 x.a.bits, .int .u64 x.a.per, .slice x.AL x.a.ls.length x.cL, .slice x.AC x.a.cl.length x.cC]), (.agg #[.int .u64 r.seq, .int .i64 r.kind, .string r.ten, .int .u64 r.lease, .int .u64 r.n, .int .u64 r.bits])] W (RetV W (.int .i64 v))) := fun W e => HXp.out W (E5.out.trans e)
        clear HXp HSV HB
        go_wp2_with fail
        refine wp_region_quietE w5 (Ext.refl _) (by kernel_rfl) (by kernel_rfl) ?_
        repeat (first | (apply wpq_skip; (focus rfl); (try simp only [Act.put, List.setIfInBounds_toArray, List.set_cons_zero, List.set_cons_succ])) | ((with_reducible show QGoal _ _ _ _ ({ dst := _, op := Op.call { callee := Callee.value (Operand.func 53), args := _, argTypes := _ }, type := _, pos := _, after := _, guard := _ } :: _) _); apply wpq_call (hc := HC2.out); (focus rfl); (focus (intro W hW; go_simp; (first | done | with_reducible rfl))); (try simp only [Act.put, List.setIfInBounds_toArray, List.set_cons_zero, List.set_cons_succ])) | (apply wpq_take; (focus rfl); (focus (intro W hW; obtain ⟨b1, ⟨x0, x1, x2, x3, x4, x5, x6⟩, ⟨r0, r1, r2, r3, r4, r5⟩⟩ := KS.out W hW; go_simp; (first | done | with_reducible rfl))); (try simp only [Act.put, List.setIfInBounds_toArray, List.set_cons_zero, List.set_cons_succ])))
        refine wpq_nil ?_
        intro w9 S9
        go_wp2_with fail
        go_ret
        rw [HVV.out]
        exact ⟨rfl, E5.out.trans S9⟩
      | false =>
        have h1 := HF.out rfl
        rw [h1] at HV
        obtain ⟨a0, a1⟩ := lg_cells X5.out
        obtain ⟨r0, r1, r2, r3, r4, r5⟩ := rc_cells Y5.out
        clear HX HT HF h1
        by_cases h8 : 8 ≤ xs.length
        · rw [if_pos ⟨rfl, h8⟩] at HV
          have q8 : decide (8 ≤ xs.length) = true := decide_eq_true h8
          have q9 : decide ((8 : Int) ≤ (xs.length : Int)) = true := decide_eq_true (by omega)
          go_wp2_with fail
          go_ret
          rw [HV.out]
          exact ⟨rfl, E5.out⟩
        · rw [if_neg (by simpa using h8)] at HV
          have q8 : decide (8 ≤ xs.length) = false := decide_eq_false h8
          have q9 : decide ((8 : Int) ≤ (xs.length : Int)) = false := decide_eq_false (by omega)
          generalize chkA (acNone r.ten) r = v at *
          go_wp2_with fail
          refine (HN.out _).mono ?_
          rintro e w6 ⟨rfl, e6⟩
          have E6 := Lib.hid (E5.out.trans e6)
          clear e6
          go_wp2_with fail
          go_ret
          rw [HV.out]
          exact ⟨rfl, E6.out⟩
    · rw [if_pos hm] at HV
      have q1 : ((r.seq : Int) != (M : Int)) = true := by simp; omega
      go_wp2_with fail
      go_ret
      rw [HV.out]
      exact ⟨rfl, E4.out⟩
  · have q0 : (E != 0) = true := by simpa using h0
    rw [if_pos h0] at HV
    go_wp2_with fail
    go_ret
    rw [HV.out]
    exact ⟨rfl, E4.out⟩
end Go.Proofs.YtkbjnlbbfapgdaaDoor

namespace Go.Proofs.YtkbjnlbbfapgdaaDoor
open Go.RowKit

set_option maxHeartbeats 8000000 in
theorem lgfind_calls (seq : Nat) (A : Option Addr) (c : Nat) (xs : List Ax) (s : ByteArray) (w : World) (hb : RdL w A xs) (hok : ∀ x ∈ xs, x.a.ok) (hl : xs.length ≤ 100000) (hr : Rises (acs xs)) :
    Calls Tryd.prog 37 #[lgA seq A xs.length c, .string s] w (RetOA w (accOf (acs xs) s)) := by
  have HB := Lib.hid hb
  have HP : Hid (∀ W, Ext w W → Calls Tryd.prog 88 #[.agg #[.int .u64 seq, .slice A xs.length c], .string s] W (RetV W (.tuple #[.int .i64 (posN (acs xs) s.data.toList), .bool (thereB (acs xs) s.data.toList)]))) := fun W e => place_calls seq A c xs s W (hb.ext e) hl hr
  have HX : Hid (∀ i (hi : i < xs.length), ∀ W, Ext w W → Calls Tryd.prog 21 #[(.agg #[.string xs[i].a.ten, .int .u64 xs[i].a.cap, .int .u64 xs[i].a.used, .int .u64 xs[i].a.bits, .int .u64 xs[i].a.per, .slice xs[i].AL xs[i].a.ls.length xs[i].cL, .slice xs[i].AC xs[i].a.cl.length xs[i].cC])] W (fun e w' => ∃ L7 l7 C7 c7, e = .returned (.agg #[.string xs[i].a.ten, .int .u64 xs[i].a.cap, .int .u64 xs[i].a.used, .int .u64 xs[i].a.bits, .int .u64 xs[i].a.per, .slice L7 xs[i].a.ls.length l7, .slice C7 xs[i].a.cl.length c7]) ∧ OwnA w' W.heap.size xs[i].a L7 l7 C7 c7 ∧ Ext W w')) := fun i hi W e => by
    have hx := hb.each _ (List.getElem_mem hi)
    have ho := hok _ (List.getElem_mem hi)
    exact aclone_calls xs[i].a _ _ _ _ W (hx.ext e).rd hx.nl hx.nc ho.2.2.2.2.2.2.2.1 ho.2.2.2.2.2.2.2.2
  have HT : Hid (thereB (acs xs) s.data.toList = true → ∃ hp : posN (acs xs) s.data.toList < xs.length, accOf (acs xs) s = xs[posN (acs xs) s.data.toList].a) := fun h => by
    obtain ⟨hp, h1, _⟩ := acc_there hr h
    exact ⟨by simpa using hp, by rw [h1]; simp [acs]⟩
  have HF : Hid (thereB (acs xs) s.data.toList = false → accOf (acs xs) s = acNone s) := fun h => acc_none h
  clear hb hok hr
  generalize posN (acs xs) s.data.toList = p at *
  generalize thereB (acs xs) s.data.toList = th at *
  generalize accOf (acs xs) s = R at *
  unfold lgA
  go_enter Tryd.func37, Tryd.ntmps37
  go_wp2_with (first
    | ((with_reducible show wpList _ _ _ ({ dst := some 2, op := Op.box 40 _, type := _, pos := _, after := _, guard := _ } :: _) _ _); refine bxA _ rfl 40 _ rfl _ rfl ?_; intro g1 w1 hg hs1 k1 e1; have X1 := Lib.hid k1; have E1 := Lib.hid e1; clear hg hs1 k1 e1)
    | ((with_reducible show wpList _ _ _ ({ dst := some 4, op := Op.alloc 26, type := _, pos := _, after := _, guard := _ } :: _) _ _); refine alA _ rfl 26 rfl _ _ zero_acct ?_; intro g4 w4 hg hs1 k1 e1; have X4 := Lib.hid (X1.out.ext e1); have Y4 := Lib.hid k1; have G4 := Lib.hid (show w.heap.size ≤ g4 from by have := E1.out.size; omega); have E4 := Lib.hid (E1.out.trans e1); obtain ⟨a0, a1⟩ := lg_cells X4.out; clear hg hs1 k1 e1 E1 X1))
  refine (HP.out _ E4.out).mono ?_
  rintro e w5 ⟨rfl, e5⟩
  have X5 := Lib.hid (X4.out.ext e5)
  have Y5 := Lib.hid (Y4.out.ext e5)
  have E5 := Lib.hid (E4.out.trans e5)
  have H5 := Lib.hid (show g4 < w5.heap.size from Y5.out.lt)
  clear e5 a0 a1 HP X4 Y4 E4
  obtain ⟨a0, a1⟩ := lg_cells X5.out
  cases th with
  | false =>
    have h2 := HF.out rfl
    subst h2
    clear HX HT HF
    go_wp2_with (first
      | ((with_reducible show wpList _ _ _ ({ dst := none, op := Op.store 26 _ _, type := _, pos := _, after := _, guard := _ } :: _) _ _); refine stA _ rfl 26 26 _ _ rfl g4 _ (acV (acNone s) none 0 none 0) rfl rfl Y5.out size_acct rfl (ac_one _ _ _ _ _) ?_; intro w6 hs k4 g6; have Y6 := Lib.hid k4; have E6 := Lib.hid (E5.out.grown g6 (fun k hk => by injection hk with hk; have := G4.out; omega)); clear hs k4 g6))
    exact ret_row Tryd.results37 g4 _ _ _ rfl Y6.out Tryd.underlying26 rfl size_acct ⟨none, 0, none, 0, rfl, ⟨OwnV.nil _ _ _ _, OwnV.nil _ _ _ _, .inl rfl⟩, E6.out⟩
  | true =>
    obtain ⟨hk, h2⟩ := HT.out rfl
    have HXp := Lib.hid (HX.out p hk)
    clear HX HT HF
    obtain ⟨ad, rfl, x0, x1, x2, x3, x4, x5, x6⟩ := (HB.out.rd.ext E5.out).seven hk
    have k1 : (p : Int) < (xs.length : Int) := by omega
    subst h2
    generalize xs[p] = x at *
    go_wp2_with (first
      | (go_at_call 21; refine (HXp.out _ E5.out).mono ?_; rintro e w6 ⟨L7, l7, C7, c7, rfl, o7, e7⟩; have O7 := Lib.hid o7; have Y6 := Lib.hid (Y5.out.ext e7); have E6 := Lib.hid (E5.out.trans e7); clear o7 e7)
      | ((with_reducible show wpList _ _ _ ({ dst := none, op := Op.store 26 _ _, type := _, pos := _, after := _, guard := _ } :: _) _ _); refine stA _ rfl 26 26 _ _ rfl g4 _ (acV x.a L7 l7 C7 c7) rfl rfl Y6.out size_acct rfl (ac_one _ _ _ _ _) ?_; intro w7 hs k4 g6; have Y7 := Lib.hid k4; have E7 := Lib.hid (E6.out.grown g6 (fun k hk => by injection hk with hk; have := G4.out; omega)); have O8 := Lib.hid (O7.out.keep g6 (O7.out.off (.inl H5.out)).1 (O7.out.off (.inl H5.out)).2); clear hs k4 g6))
    exact ret_row Tryd.results37 g4 _ _ _ rfl Y7.out Tryd.underlying26 rfl size_acct ⟨L7, l7, C7, c7, rfl, O8.out.lower (by have := E5.out.size; omega), E7.out⟩
end Go.Proofs.YtkbjnlbbfapgdaaDoor

namespace Go.Proofs.YtkbjnlbbfapgdaaDoor
open Go.RowKit

section laws
variable {P : Program} {ops : Array Oper} {rest : List Oper} {o : Oper} {a : Act} {Q : Exit → Act → World → Prop}
theorem run_storeVar_mid (w : World) (g off : Nat) (t u : TypeId) (cur : List Value) (ds : Array Value) (H : Arr w g u cur.toArray) (hfit : off + ds.size ≤ cur.length) (hs : (P.info? t).map (·.size) = some ds.size) (h1 : ∀ v ∈ ds, v.oneCell' = true) :
    (storeVar t ⟨g, off, none⟩ (.agg ds)).run P w = .ok () (w.setRow g (splice cur off ds.toList).toArray) := by
  cases hq : P.info? t with
  | none => simp [hq] at hs
  | some inf =>
    have hz : inf.size = ds.size := by simpa [hq] using hs
    have h := run_storeCells_at P g off u ds.toList 0 cur.toArray w H (by simpa using hfit) (fun v hv => h1 v (by simpa using hv))
    simp [storeVar, sizeOf, typeInfo, hq, hz, Value.cells, h, splice]
/-- a struct, written in the middle of a row -/
theorem stE (w : World) (hgd : o.guard = none) (t : TypeId) (x y : Operand) (ho : o.op = .store t x y) (g off : Nat) (ds : Array Value) (u : TypeId) (cur : List Value) (hx : a.eval x = .pointer (some ⟨g, off, none⟩)) (hy : a.eval y = .agg ds) (H : Arr w g u cur.toArray)
    (hfit : off + ds.size ≤ cur.length) (hs : (P.info? t).map (·.size) = some ds.size) (h1 : ∀ v ∈ ds, v.oneCell' = true)
    (h : ∀ w', w'.heap.size = w.heap.size → Arr w' g u (splice cur off ds.toList).toArray → w.grownBy w' (some g) → wpList P ops Q rest (a.put o.dst undef) w') : wpList P ops Q (o :: rest) a w := by
  refine wpList_plain hgd fun K hK => ?_
  unfold Oper.wp execOp
  simp only [ho, hx, hy, Instr.storeAt, Instr.sureAddr, Sem.run_bind, Sem.run_pure, Result.andThen_ok, run_storeVar_mid w g off t u cur ds H hfit hs h1]
  exact hK _ _ (h _ (by simp) H.setRow (grown_setRow w g _))
/-- a variable made, in a region that draws its order -/
theorem stepAl {K : Act → World → Prop} {E : Prop} (w : World) (hgd : Region.wanted o (yielded ops a.tmps) = true) (t : TypeId) (ho : o.op = .alloc t) (cs : Array Value) (n : Nat) (hz : (P.info? t).map (fun i => (i.zero, i.size)) = some (some (.agg cs), n))
    (h : ∀ g w', w.heap.size = g → w'.heap.size = g + 1 → Arr w' g t cs → Ext w w' → K (a.put o.dst (.pointer (some ⟨g, 0, none⟩))) w') : if Region.wanted o (yielded ops a.tmps) = true then Oper.wp P o a w K Q else E := by
  rw [if_pos hgd]
  unfold Oper.wp execOp
  have := (zero_of_info hz).1 w
  simp [ho, Instr.alloc, newVar, newRow, newObj, Value.cells, this]
  exact h _ _ rfl (by simp) (Arr.new w t cs) ((Ext.refl w).alloc _)
/-- a whole variable written, in a region that draws its order -/
theorem stepSt {K : Act → World → Prop} {E : Prop} (w : World) (hgd : Region.wanted o (yielded ops a.tmps) = true) (t u : TypeId) (x y : Operand) (ho : o.op = .store t x y) (g : Nat) (cs ds : Array Value) (hx : a.eval x = .pointer (some ⟨g, 0, none⟩)) (hy : a.eval y = .agg ds) (H : Arr w g u cs)
    (hi : (P.info? t).map (·.size) = some ds.size) (hs : cs.size = ds.size) (h1 : ∀ v ∈ ds, v.oneCell' = true)
    (h : ∀ w', w'.heap.size = w.heap.size → Arr w' g u ds → w.grownBy w' (some g) → K (a.put o.dst undef) w') : if Region.wanted o (yielded ops a.tmps) = true then Oper.wp P o a w K Q else E := by
  rw [if_pos hgd]
  exact wp_store_row t x y ho g ds hx hy u cs H hi hs (by rw [Array.all_eq_true_iff_forall_mem]; exact h1) (h _ (by simp) H.setRow (grown_setRow w g ds))
end laws
theorem splice_app {α : Type} (A B C D : List α) (k : Nat) (hk : A.length = k) (h : B.length = D.length) : splice (A ++ B ++ C) k D = A ++ D ++ C := by
  subst hk
  unfold splice
  rw [List.drop_left' (by rw [List.length_append, h]), List.append_assoc A B C, List.take_left, List.append_assoc]
theorem splice_take {α : Type} (Z X Y V R : List α) (k : Nat) (hX : X.length = k) (hZ : Z = X ++ Y ++ R) (hV : V.length ≤ Y.length) : (splice Z k V).take (k + Y.length) = X ++ V ++ Y.drop V.length := by
  subst hX hZ
  have h0 : X ++ Y ++ R = X ++ Y.take V.length ++ (Y.drop V.length ++ R) := by
    rw [List.append_assoc, List.append_assoc, ← List.append_assoc (Y.take _), List.take_append_drop]
  rw [h0, splice_app _ _ _ _ _ rfl (by rw [List.length_take]; omega), ← List.append_assoc]
  exact List.take_left' (by simp; omega)
theorem splice_mid {α : Type} (Z X V Y : List α) (R : List α) (k m : Nat) (hX : X.length = k) (hV : V.length = m) (hZ : Z = X ++ Y ++ R) (hR : m ≤ R.length) :
    (splice (splice Z (k + m) Y) k V).take (k + m + Y.length) = X ++ V ++ Y := by
  subst hX hV hZ
  obtain ⟨T, hT⟩ : ∃ T, T = (Y ++ R).take V.length := ⟨_, rfl⟩
  obtain ⟨U, hU⟩ : ∃ U, U = ((Y ++ R).drop V.length).take Y.length := ⟨_, rfl⟩
  obtain ⟨S, hS⟩ : ∃ S, S = ((Y ++ R).drop V.length).drop Y.length := ⟨_, rfl⟩
  have lT : T.length = V.length := by rw [hT, List.length_take, List.length_append]; omega
  have lU : U.length = Y.length := by rw [hU, List.length_take, List.length_drop, List.length_append]; omega
  have h0 : X ++ Y ++ R = (X ++ T) ++ U ++ S := by
    rw [List.append_assoc (X ++ T), hU, hS, List.take_append_drop, hT, List.append_assoc X, List.append_assoc X, List.take_append_drop]
  rw [h0, splice_app _ _ _ _ _ (by rw [List.length_append, lT]) lU, List.append_assoc (X ++ T), splice_app _ _ _ _ _ rfl lT, ← List.append_assoc]
  exact List.take_left' (by simp; omega)
theorem splice_grow {α : Type} (X V Y Z1 Z2 : List α) (k m : Nat) (hX : X.length = k) (hV : V.length = m) (hZ : Z1.length = V.length + Y.length) :
    (splice (splice (X ++ Z1 ++ Z2) k V) (k + m) Y).take (k + m + Y.length) = X ++ V ++ Y := by
  subst hX hV
  have h0 : X ++ Z1 ++ Z2 = X ++ Z1.take V.length ++ (Z1.drop V.length ++ Z2) := by
    rw [List.append_assoc, List.append_assoc, ← List.append_assoc (Z1.take _), List.take_append_drop]
  rw [h0, splice_app _ _ _ _ _ rfl (by rw [List.length_take]; omega), ← List.append_assoc, splice_app _ _ _ _ _ (by simp) (by rw [List.length_drop]; omega)]
  exact List.take_left' (by simp; omega)
end Go.Proofs.YtkbjnlbbfapgdaaDoor

