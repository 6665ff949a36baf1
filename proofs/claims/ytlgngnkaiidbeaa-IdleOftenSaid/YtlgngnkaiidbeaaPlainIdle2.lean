/- The document's lists of keys, an element more. -/
import Derived.Test.YtlgngnkaiidbeaaPlainIdle
set_option linter.unusedVariables false
set_option linter.unusedSimpArgs false
namespace Go.Proofs.Ytlgngnkaiidbeaa

theorem ins_none {k : PK} : ∀ {x : PL}, (∀ p ∈ x, ¬ ltP k p.1) → insP x k = x ++ [(k, 0)]
  | [], _ => rfl
  | p :: x, h => by
    unfold insP
    rw [if_neg (h p List.mem_cons_self), ins_none (fun q hq => h q (List.mem_cons_of_mem _ hq))]
    rfl
theorem ins_here {k : PK} {q : PK × Nat} (hq : ltP k q.1) : ∀ {x : PL}, (∀ p ∈ x, ¬ ltP k p.1) → insP (x ++ [q]) k = x ++ [(k, 0)] ++ [q]
  | [], _ => by
    show insP [q] k = _
    unfold insP
    rw [if_pos hq]; rfl
  | p :: x, h => by
    show insP (p :: (x ++ [q])) k = _
    unfold insP
    rw [if_neg (h p List.mem_cons_self), ins_here hq (fun q hq => h q (List.mem_cons_of_mem _ hq))]
    rfl
theorem ins_some {k : PK} {q : PK × Nat} : ∀ {x : PL}, (∃ p ∈ x, ltP k p.1) → insP (x ++ [q]) k = insP x k ++ [q]
  | [], h => by obtain ⟨p, hp, _⟩ := h; simp at hp
  | p :: x, h => by
    show insP (p :: (x ++ [q])) k = _
    unfold insP
    by_cases hp : ltP k p.1
    · rw [if_pos hp, if_pos hp]; rfl
    · rw [if_neg hp, if_neg hp, ins_some]
      · rfl
      · obtain ⟨r, hr, hr2⟩ := h
        rcases List.mem_cons.1 hr with rfl | hr
        · exact absurd hr2 hp
        · exact ⟨r, hr, hr2⟩
/-- the document's Touch within its loop -/
structure TI (y : PL) (k : PK) (d : Bool) (out : PL) : Prop where
  yes : d = true → (∃ p ∈ y, ltP k p.1) ∧ out = insP y k
  no : d = false → (∀ p ∈ y, ¬ ltP k p.1) ∧ out = y
theorem TI.start (k : PK) : TI [] k false [] := ⟨(fun h => by cases h), fun _ => ⟨by simp, rfl⟩⟩
theorem TI.on {y out : PL} {k : PK} (h : TI y k true out) (q : PK × Nat) : TI (y ++ [q]) k true (out ++ [q]) := by
  obtain ⟨⟨p, hp, hk⟩, e⟩ := h.yes rfl
  exact ⟨fun _ => ⟨⟨p, List.mem_append_left _ hp, hk⟩, by rw [ins_some ⟨p, hp, hk⟩, e]⟩, (fun h => by cases h)⟩
theorem TI.now {y out : PL} {k : PK} (h : TI y k false out) {q : PK × Nat} (hq : ltP k q.1) : TI (y ++ [q]) k true (out ++ [(k, 0)] ++ [q]) := by
  obtain ⟨hn, e⟩ := h.no rfl
  subst e
  exact ⟨fun _ => ⟨⟨q, List.mem_append_right _ List.mem_cons_self, hq⟩, (ins_here hq hn).symm⟩, (fun h => by cases h)⟩
theorem TI.off {y out : PL} {k : PK} (h : TI y k false out) {q : PK × Nat} (hq : ¬ ltP k q.1) : TI (y ++ [q]) k false (out ++ [q]) := by
  obtain ⟨hn, e⟩ := h.no rfl
  subst e
  refine ⟨(fun h => by cases h), fun _ => ⟨fun p hp => ?_, rfl⟩⟩
  rcases List.mem_append.1 hp with hp | hp
  · exact hn p hp
  · rw [List.mem_singleton] at hp; subst hp; exact hq
theorem TI.end1 {y out : PL} {k : PK} (h : TI y k true out) : out = insP y k := (h.yes rfl).2
theorem TI.end2 {y out : PL} {k : PK} (h : TI y k false out) : out ++ [(k, 0)] = insP y k := by
  obtain ⟨hn, e⟩ := h.no rfl
  rw [ins_none hn, e]
theorem without_snoc (x : PL) (k : PK) (q : PK × Nat) : (q.1 = k → withoutP (x ++ [q]) k = withoutP x k) ∧ (q.1 ≠ k → withoutP (x ++ [q]) k = withoutP x k ++ [q]) := by
  unfold withoutP
  rw [List.filter_append]
  constructor
  · intro h
    rw [List.filter_cons_of_neg (by simp [h])]; simp
  · intro h
    rw [List.filter_cons_of_pos (by simp [h])]; simp
theorem tick_snoc (x : PL) (q : PK × Nat) : (10 ≤ q.2 + 1 → stayP (x ++ [q]) = stayP x ∧ toldP (x ++ [q]) = toldP x ++ [q.1]) ∧ (¬ 10 ≤ q.2 + 1 → stayP (x ++ [q]) = stayP x ++ [(q.1, q.2 + 1)] ∧ toldP (x ++ [q]) = toldP x) := by
  unfold stayP toldP agedP
  rw [List.map_append, List.filter_append, List.filter_append, List.map_append]
  constructor
  · intro h
    have h2 : ¬ q.2 + 1 < 10 := by omega
    simp [h, h2]
  · intro h
    have h2 : q.2 + 1 < 10 := by omega
    simp [h, h2]
theorem keys_snoc (x : PL) (q : PK × Nat) : keysP (x ++ [q]) = keysP x ++ [q.1] := by unfold keysP; simp
/-- no such key so far -/
theorem find_snoc {x : PL} {k : PK} {q : PK × Nat} (h : k ∉ keysP x) (hq : q.1 ≠ k) : k ∉ keysP (x ++ [q]) := by
  rw [keys_snoc, List.mem_append]
  rintro (a | a)
  · exact h a
  · rw [List.mem_singleton] at a; exact hq a.symm
theorem without_len (x : PL) (k : PK) : (withoutP x k).length ≤ x.length := List.length_filter_le _ _
theorem RelW.ago {now : Nat} {l x : PL} (h : RelW now l x) : ∀ q ∈ x, q.2 ≤ now := by
  intro q hq
  obtain ⟨a, _, ha⟩ := (h.mem q.1 q.2).1 hq
  omega
theorem touch_one (k : PK) (x : PL) (h : ∀ q ∈ x, q.1 = k) : touchP x k = [(k, 0)] := by
  have h2 : withoutP x k = [] := by
    unfold withoutP
    rw [List.filter_eq_nil_iff]
    intro q hq
    simp [h q hq]
  unfold touchP
  rw [h2]; rfl
theorem stay_one (k : PK) (g : Nat) : stayP [(k, g)] = if g + 1 < 10 then [(k, g + 1)] else [] := by
  unfold stayP agedP
  by_cases h : g + 1 < 10 <;> simp [h]
theorem told_one (k : PK) (g : Nat) : toldP [(k, g)] = if 10 ≤ g + 1 then [k] else [] := by
  unfold toldP agedP
  by_cases h : 10 ≤ g + 1 <;> simp [h]
theorem nodup_len {α : Type} [DecidableEq α] : ∀ (a b : List α), a.Nodup → (∀ x ∈ a, x ∈ b) → a.length ≤ b.length
  | [], b, _, _ => Nat.zero_le _
  | x :: a, b, hn, h => by
    rw [List.nodup_cons] at hn
    have h1 := nodup_len a (b.erase x) hn.2 (fun y hy => (List.mem_erase_of_ne (fun e => by subst e; exact hn.1 hy)).2 (h y (List.mem_cons_of_mem _ hy)))
    have hx := h x List.mem_cons_self
    rw [List.length_erase_of_mem hx] at h1
    have := List.length_pos_of_mem hx
    simp only [List.length_cons]
    omega
/-- the watch has at most as many keys as the document -/
theorem RelW.len {now : Nat} {l x : PL} (h : RelW now l x) : l.length ≤ x.length := by
  have h1 : l.length = (keysP l).length := by unfold keysP; simp
  have h2 : x.length = (keysP x).length := by unfold keysP; simp
  rw [h1, h2]
  exact nodup_len _ _ h.nod (fun k hk => (h.has k).1 hk)
end Go.Proofs.Ytlgngnkaiidbeaa
