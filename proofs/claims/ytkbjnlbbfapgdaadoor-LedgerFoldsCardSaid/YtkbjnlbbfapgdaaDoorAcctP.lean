/- The plain law of accounts: what is right, what a record does, what stays right. -/
import Derived.Test.YtkbjnlbbfapgdaaDoorAcctS
import Derived.Test.YtkbjnlbbfapgdaaDoorPriceD
import Derived.Test.YtkbjnlbbfapgdaaDoorRec2
set_option maxRecDepth 100000
set_option linter.unusedVariables false
set_option linter.unusedSimpArgs false
namespace Go.Proofs.YtkbjnlbbfapgdaaDoor
open Go.RowKit

def outF (ls : List Lz) : Nat := ls.foldl (fun n l => addN n l.sz) 0
def useN (a : Ac) : Nat := addN a.used (outF a.ls)
def roomN (a : Ac) : Nat := if a.cap < useN a then 0 else a.cap - useN a
def totF (u : Nat) (cl : List St) : Nat := cl.foldl (fun n s => addN n s.used) u
def sumL (ls : List Lz) : Nat := (ls.map (·.sz)).sum
def sumS (cl : List St) : Nat := (cl.map (·.used)).sum
def idx (ls : List Lz) (p : Lz → Bool) : Nat := ls.findIdx p
def stmtOf (a : Ac) : St := ⟨a.ten, a.per, a.used, a.cap, a.bits, dueV a.used a.bits⟩
def chkS (a : Ac) (k : Int) (lease n : Nat) : Int :=
  if k = 3 then (if a.ls.any (fun l => decide (lease ≤ l.id)) = true then 9 else if roomN a < n then 11 else 0)
  else if k = 4 then (match a.ls.find? (fun l => decide (l.id = lease)) with | none => 8 | some l => if l.sz < n then 6 else 0)
  else if k = 5 then (if 0 < a.ls.length then 12 else if 65536 ≤ a.per then 3 else 0) else 0
def chkA (a : Ac) (r : Rc) : Int :=
  if recE r.seq r.kind r.ten r.lease r.n r.bits ≠ 0 then recE r.seq r.kind r.ten r.lease r.n r.bits else if r.ten ≠ a.ten then 7 else chkS a r.kind r.lease r.n
def appA (a : Ac) (r : Rc) : Ac :=
  if r.kind = 1 then { a with cap := r.n } else if r.kind = 2 then { a with bits := r.bits }
  else if r.kind = 3 then { a with ls := a.ls ++ [⟨r.lease, r.n⟩] }
  else if r.kind = 4 then { a with ls := a.ls.eraseIdx (idx a.ls (fun l => decide (l.id = r.lease))), used := addN a.used r.n }
  else { a with cl := a.cl ++ [stmtOf a], per := a.per + 1, used := 0 }

def leasesR (u last : Nat) : List Lz → Bool
  | [] => true
  | l :: ls => decide (last < l.id) && decide (0 < l.sz) && decide (u + l.sz < 18446744073709551616) && leasesR (u + l.sz) l.id ls
def closedR (ten : ByteArray) (i : Nat) : List St → Bool
  | [] => true
  | s :: cl => (prB s.bits && decide (s.due = dueV s.used s.bits) && plainB s.bits && decide (s.ten = ten) && decide (s.per = i)) && closedR ten (i + 1) cl
def rightB (a : Ac) : Bool := leasesR a.used 0 a.ls && closedR a.ten 0 a.cl && tenantB a.ten.data.toList && plainB a.bits && decide (a.per ≤ 65536) && decide (a.cl.length = a.per)

def idsR (last : Nat) : List Lz → Prop
  | [] => True
  | l :: ls => last < l.id ∧ 0 < l.sz ∧ idsR l.id ls

theorem addN_eq (a b : Nat) : addN a b = min (a + b) 18446744073709551615 := by unfold addN; split <;> omega
theorem sumL_nil : sumL [] = 0 := rfl
theorem sumL_cons (l : Lz) (ls : List Lz) : sumL (l :: ls) = l.sz + sumL ls := by simp [sumL]
theorem sumL_snoc (l : Lz) (ls : List Lz) : sumL (ls ++ [l]) = sumL ls + l.sz := by simp [sumL]
theorem sumS_cons (s : St) (cl : List St) : sumS (s :: cl) = s.used + sumS cl := by simp [sumS]
theorem sumS_snoc (s : St) (cl : List St) : sumS (cl ++ [s]) = sumS cl + s.used := by simp [sumS]
theorem foldL (ls : List Lz) (u : Nat) (hu : u ≤ 18446744073709551615) : ls.foldl (fun n l => addN n l.sz) u = min (u + sumL ls) 18446744073709551615 := by
  induction ls generalizing u with
  | nil => rw [List.foldl_nil, sumL_nil]; omega
  | cons l ls ih => rw [List.foldl_cons, ih _ (by rw [addN_eq]; omega), addN_eq, sumL_cons]; omega
theorem outF_eq (ls : List Lz) : outF ls = min (sumL ls) 18446744073709551615 := by unfold outF; rw [foldL _ _ (by omega), Nat.zero_add]
theorem useN_eq (a : Ac) : useN a = min (a.used + sumL a.ls) 18446744073709551615 := by unfold useN; rw [addN_eq, outF_eq]; omega
theorem totF_eq (cl : List St) (u : Nat) (hu : u ≤ 18446744073709551615) : totF u cl = min (u + sumS cl) 18446744073709551615 := by
  unfold totF
  induction cl generalizing u with
  | nil => rw [List.foldl_nil]; simp [sumS]; omega
  | cons l ls ih => rw [List.foldl_cons, ih _ (by rw [addN_eq]; omega), addN_eq, sumS_cons]; omega
theorem leasesR_iff (ls : List Lz) (u last : Nat) (hu : u < 18446744073709551616) : leasesR u last ls = true ↔ idsR last ls ∧ u + sumL ls < 18446744073709551616 := by
  induction ls generalizing u last with
  | nil => simp [leasesR, idsR, sumL_nil]; exact hu
  | cons l ls ih =>
    unfold leasesR idsR
    rw [sumL_cons]
    by_cases h : u + l.sz < 18446744073709551616
    · have := ih (u + l.sz) l.id h
      simp only [Bool.and_eq_true, decide_eq_true_eq, this]
      constructor
      · rintro ⟨⟨⟨h1, h2⟩, _⟩, h3, h4⟩; exact ⟨⟨h1, h2, h3⟩, by omega⟩
      · rintro ⟨⟨h1, h2, h3⟩, h4⟩; exact ⟨⟨⟨h1, h2⟩, h⟩, h3, by omega⟩
    · simp only [Bool.and_eq_true, decide_eq_true_eq]
      constructor
      · rintro ⟨⟨⟨h1, h2⟩, h5⟩, h3⟩; exact absurd h5 h
      · rintro ⟨⟨h1, h2, h3⟩, h4⟩; omega
theorem idsR_mono {ls : List Lz} {a b : Nat} (h : idsR b ls) (hab : a ≤ b) : idsR a ls := by
  cases ls with
  | nil => trivial
  | cons l ls => exact ⟨by have := h.1; omega, h.2⟩
theorem idsR_erase {ls : List Lz} {a : Nat} (h : idsR a ls) (i : Nat) : idsR a (ls.eraseIdx i) := by
  induction ls generalizing a i with
  | nil => simpa using h
  | cons l ls ih =>
    cases i with
    | zero => rw [List.eraseIdx_cons_zero]; exact idsR_mono h.2.2 (Nat.le_of_lt h.1)
    | succ i => rw [List.eraseIdx_cons_succ]; exact ⟨h.1, h.2.1, ih h.2.2 i⟩
theorem idsR_snoc {ls : List Lz} {a : Nat} {l : Lz} (h : idsR a ls) (hl : ∀ x ∈ ls, x.id < l.id) (ha : a < l.id) (h0 : 0 < l.sz) : idsR a (ls ++ [l]) := by
  induction ls generalizing a with
  | nil => exact ⟨ha, h0, trivial⟩
  | cons x ls ih => exact ⟨h.1, h.2.1, ih h.2.2 (fun y hy => hl y (List.mem_cons_of_mem _ hy)) (hl x (List.mem_cons_self ..))⟩
theorem closedR_snoc (ten : ByteArray) (cl : List St) (i : Nat) (s : St) (h : closedR ten i cl = true) (hs : closedR ten (i + cl.length) [s] = true) : closedR ten i (cl ++ [s]) = true := by
  induction cl generalizing i with
  | nil => simpa using hs
  | cons x cl ih =>
    rw [List.cons_append]
    unfold closedR at h ⊢
    rw [Bool.and_eq_true] at h ⊢
    exact ⟨h.1, ih (i + 1) h.2 (by rw [show i + 1 + cl.length = i + (x :: cl).length by simp; omega]; exact hs)⟩
theorem sum_erase {ls : List Lz} {p : Lz → Bool} {l : Lz} (h : ls.find? p = some l) : sumL (ls.eraseIdx (ls.findIdx p)) + l.sz = sumL ls := by
  induction ls with
  | nil => simp at h
  | cons x ls ih =>
    rw [List.find?_cons] at h
    rw [List.findIdx_cons]
    cases hp : p x with
    | true =>
      rw [hp] at h
      simp at h
      subst h
      simp [sumL_cons]; omega
    | false =>
      rw [hp] at h
      simp only [cond_false, List.eraseIdx_cons_succ]
      have := ih h
      rw [sumL_cons, sumL_cons]; omega
theorem plain_pr {x : Nat} (h : plainB x = true) : prB x = true := by
  unfold plainB at h
  unfold prB
  have := of_decide_eq_true h
  exact decide_eq_true (by omega)

theorem rightB_iff (a : Ac) (hu : a.used < 18446744073709551616) : rightB a = true ↔ (idsR 0 a.ls ∧ a.used + sumL a.ls < 18446744073709551616) ∧ closedR a.ten 0 a.cl = true ∧ tenantB a.ten.data.toList = true ∧ plainB a.bits = true ∧ a.per ≤ 65536 ∧ a.cl.length = a.per := by
  unfold rightB
  simp only [Bool.and_eq_true, leasesR_iff _ _ _ hu, decide_eq_true_eq, and_assoc]

theorem rec_zero {r : Rc} (h : recE r.seq r.kind r.ten r.lease r.n r.bits = 0) : knownB r.kind = true ∧ (r.kind = 3 → 0 < r.n) ∧ (r.kind = 3 ∨ r.kind = 4 → 0 < r.lease) ∧ (r.kind = 2 → plainB r.bits = true) := by
  unfold recE at h
  split at h
  · cases h
  split at h
  · cases h
  split at h
  · cases h
  split at h
  · cases h
  · rename_i h1 h2 h3 h4
    refine ⟨by simpa using h1, fun h => ?_, fun h => ?_, fun h => ?_⟩
    · have : ¬ (r.kind = 3 ∧ r.n = 0) := fun e => h3 (.inr (.inr e))
      omega
    · have : ¬ (hasL r.kind = true ∧ r.lease = 0) := fun e => h3 (.inr (.inl e))
      have hl : hasL r.kind = true := by rcases h with h | h <;> rw [h] <;> rfl
      have : r.lease ≠ 0 := fun e => this ⟨hl, e⟩
      omega
    · have hb : hasB r.kind = true := by rw [h]; rfl
      cases hp : plainB r.bits
      · exact absurd ⟨hb, hp⟩ h4
      · rfl

theorem chk_zero {a : Ac} {r : Rc} (h : chkA a r = 0) : recE r.seq r.kind r.ten r.lease r.n r.bits = 0 ∧ r.ten = a.ten ∧ chkS a r.kind r.lease r.n = 0 := by
  unfold chkA at h
  split at h
  · rename_i h1; exact absurd h h1
  · rename_i h1
    split at h
    · cases h
    · rename_i h2
      exact ⟨by simpa using h1, by simpa using h2, h⟩
theorem chk_reserve {a : Ac} {lease n : Nat} (h : chkS a 3 lease n = 0) : (∀ l ∈ a.ls, l.id < lease) ∧ n ≤ roomN a := by
  unfold chkS at h
  rw [if_pos rfl] at h
  split at h
  · cases h
  · rename_i h1
    split at h
    · cases h
    · rename_i h2
      refine ⟨fun l hl => ?_, by omega⟩
      simp only [List.any_eq_true, decide_eq_true_eq, not_exists, not_and] at h1
      have := h1 l hl
      omega
theorem chk_settle {a : Ac} {lease n : Nat} (h : chkS a 4 lease n = 0) : ∃ l, a.ls.find? (fun l => decide (l.id = lease)) = some l ∧ n ≤ l.sz := by
  unfold chkS at h
  rw [if_neg (by decide), if_pos rfl] at h
  split at h
  · cases h
  · rename_i l hl
    split at h
    · cases h
    · exact ⟨l, hl, by omega⟩
theorem chk_close {a : Ac} {lease n : Nat} (h : chkS a 5 lease n = 0) : a.ls = [] ∧ a.per < 65536 := by
  unfold chkS at h
  rw [if_neg (by decide), if_neg (by decide), if_pos rfl] at h
  split at h
  · cases h
  · rename_i h1
    split at h
    · cases h
    · exact ⟨List.eq_nil_of_length_eq_zero (by omega), by omega⟩

theorem appA_used {a : Ac} {r : Rc} (h : a.used < 18446744073709551616) : (appA a r).used < 18446744073709551616 := by
  unfold appA
  have := addN_eq a.used r.n
  repeat' split
  all_goals simp only
  all_goals omega

theorem stays_reserve {a : Ac} {r : Rc} (hu : a.used < 18446744073709551616) (hc : a.cap < 18446744073709551616) (hr : rightB a = true) (h : chkA a r = 0) (hk : r.kind = 3) :
    rightB (appA a r) = true ∧ useN (appA a r) ≤ (appA a r).cap := by
  obtain ⟨h1, h2, h3⟩ := chk_zero h
  obtain ⟨_, hn, hl, _⟩ := rec_zero h1
  rw [hk] at h3
  obtain ⟨h4, h5⟩ := chk_reserve h3
  have e : appA a r = { a with ls := a.ls ++ [⟨r.lease, r.n⟩] } := by unfold appA; rw [hk]; rfl
  rw [e, rightB_iff _ (by show a.used < _; exact hu), useN_eq]
  rw [rightB_iff _ hu] at hr
  have hn := hn hk
  have hl := hl (.inl hk)
  have hroom : a.used + sumL a.ls + r.n ≤ a.cap := by
    have hu := useN_eq a
    unfold roomN at h5
    split at h5 <;> omega
  refine ⟨⟨⟨idsR_snoc hr.1.1 h4 (by omega) hn, ?_⟩, hr.2⟩, ?_⟩
  · simp only [sumL_snoc]; omega
  · simp only [sumL_snoc]; omega
theorem stays_settle {a : Ac} {r : Rc} (hu : a.used < 18446744073709551616) (hr : rightB a = true) (h : chkA a r = 0) (hk : r.kind = 4) :
    rightB (appA a r) = true ∧ useN (appA a r) ≤ useN a := by
  obtain ⟨h1, h2, h3⟩ := chk_zero h
  rw [hk] at h3
  obtain ⟨l, h4, h5⟩ := chk_settle h3
  have e : appA a r = { a with ls := a.ls.eraseIdx (idx a.ls (fun l => decide (l.id = r.lease))), used := addN a.used r.n } := by unfold appA; rw [hk]; rfl
  have hs := sum_erase h4
  have ha := addN_eq a.used r.n
  rw [rightB_iff _ hu] at hr
  rw [e, rightB_iff _ (by simp only; omega), useN_eq, useN_eq]
  unfold idx
  refine ⟨⟨⟨idsR_erase hr.1.1 _, ?_⟩, hr.2⟩, ?_⟩
  · simp only; omega
  · simp only; omega
theorem stays_close {a : Ac} {r : Rc} (hu : a.used < 18446744073709551616) (hr : rightB a = true) (h : chkA a r = 0) (hk : r.kind = 5) :
    rightB (appA a r) = true ∧ totF (appA a r).used (appA a r).cl = totF a.used a.cl ∧ (appA a r).used = 0 := by
  obtain ⟨h1, h2, h3⟩ := chk_zero h
  rw [hk] at h3
  obtain ⟨h4, h5⟩ := chk_close h3
  have e : appA a r = { a with cl := a.cl ++ [stmtOf a], per := a.per + 1, used := 0 } := by unfold appA; rw [hk]; rfl
  rw [rightB_iff _ hu] at hr
  rw [e, rightB_iff _ (by simp only; omega)]
  refine ⟨⟨⟨hr.1.1, by simp only; omega⟩, closedR_snoc _ _ _ _ hr.2.1 ?_, hr.2.2.1, hr.2.2.2.1, by simp only; omega, ?_⟩, ?_, rfl⟩
  · have := plain_pr hr.2.2.2.1
    simp [closedR, stmtOf, this, hr.2.2.2.1]
    exact hr.2.2.2.2.2.symm
  · simp only [List.length_append, List.length_singleton]
    have := hr.2.2.2.2.2
    omega
  · rw [totF_eq _ _ (by simp only; omega), totF_eq _ _ (by omega), sumS_snoc]
    simp [stmtOf, Nat.add_comm]
theorem stays_other {a : Ac} {r : Rc} (hu : a.used < 18446744073709551616) (hr : rightB a = true) (h : chkA a r = 0) (hk : r.kind = 1 ∨ r.kind = 2) : rightB (appA a r) = true := by
  obtain ⟨h1, h2, h3⟩ := chk_zero h
  obtain ⟨_, _, _, hp⟩ := rec_zero h1
  rcases hk with hk | hk
  · have e : appA a r = { a with cap := r.n } := by unfold appA; rw [hk]; rfl
    rw [e]; exact hr
  · have e : appA a r = { a with bits := r.bits } := by unfold appA; rw [hk]; rfl
    rw [rightB_iff _ hu] at hr
    rw [e, rightB_iff _ (by show a.used < _; exact hu)]
    exact ⟨hr.1, hr.2.1, hr.2.2.1, hp hk, hr.2.2.2.2⟩
theorem chk_known {a : Ac} {r : Rc} (h : chkA a r = 0) : r.kind = 1 ∨ r.kind = 2 ∨ r.kind = 3 ∨ r.kind = 4 ∨ r.kind = 5 := by
  have := (rec_zero (chk_zero h).1).1
  simp [knownB] at this
  omega
theorem stays_right {a : Ac} {r : Rc} (hu : a.used < 18446744073709551616) (hc : a.cap < 18446744073709551616) (hr : rightB a = true) (h : chkA a r = 0) : rightB (appA a r) = true := by
  rcases chk_known h with hk | hk | hk | hk | hk
  · exact stays_other hu hr h (.inl hk)
  · exact stays_other hu hr h (.inr hk)
  · exact (stays_reserve hu hc hr h hk).1
  · exact (stays_settle hu hr h hk).1
  · exact (stays_close hu hr h hk).1
end Go.Proofs.YtkbjnlbbfapgdaaDoor
