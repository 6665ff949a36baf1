/- The watch's keys and the document's: plain lists. -/
import Init
set_option linter.unusedVariables false
set_option linter.unusedSimpArgs false
namespace Go.Proofs.Ytlgngnkaiidbeaa

abbrev PK := Int × Int
abbrev PL := List (PK × Nat)
def ltP (p q : PK) : Prop := p.1 < q.1 ∨ p.1 = q.1 ∧ p.2 < q.2
instance (p q : PK) : Decidable (ltP p q) := inferInstanceAs (Decidable (_ ∨ _))
theorem ltP_irrefl (p : PK) : ¬ ltP p p := by unfold ltP; omega
theorem ltP_trans {p q r : PK} (h : ltP p q) (k : ltP q r) : ltP p r := by unfold ltP at *; omega
theorem ltP_tri (p q : PK) : ltP p q ∨ p = q ∨ ltP q p := by
  unfold ltP
  rw [Prod.ext_iff]
  omega
theorem pw_uniq {α : Type} {lt : α → α → Prop} (hi : ∀ x, ¬ lt x x) (ht : ∀ x y z, lt x y → lt y z → lt x z) : ∀ (a b : List α), a.Pairwise lt → b.Pairwise lt → (∀ x, x ∈ a ↔ x ∈ b) → a = b
  | [], [], _, _, _ => rfl
  | [], y :: b, _, _, h => absurd ((h y).2 List.mem_cons_self) (by simp)
  | x :: a, [], _, _, h => absurd ((h x).1 List.mem_cons_self) (by simp)
  | x :: a, y :: b, ha, hb, h => by
    rw [List.pairwise_cons] at ha hb
    have hxy : x = y := by
      rcases List.mem_cons.1 ((h x).1 List.mem_cons_self) with e | hx
      · exact e
      · rcases List.mem_cons.1 ((h y).2 List.mem_cons_self) with e | hy
        · exact e.symm
        · exact absurd (ht _ _ _ (ha.1 y hy) (hb.1 x hx)) (hi x)
    subst hxy
    rw [pw_uniq hi ht a b ha.2 hb.2 (fun z => ?_)]
    have hz := h z
    rw [List.mem_cons, List.mem_cons] at hz
    constructor
    · intro hm
      rcases hz.1 (.inr hm) with e | k
      · subst e; exact absurd (ha.1 _ hm) (hi _)
      · exact k
    · intro hm
      rcases hz.2 (.inr hm) with e | k
      · subst e; exact absurd (hb.1 _ hm) (hi _)
      · exact k

/-- the document: a key less -/
def withoutP (x : PL) (k : PK) : PL := x.filter (fun q => decide (q.1 ≠ k))
/-- the document: a key put in its place -/
def insP : PL → PK → PL
  | [], k => [(k, 0)]
  | q :: x, k => if ltP k q.1 then (k, 0) :: q :: x else q :: insP x k
def touchP (x : PL) (k : PK) : PL := insP (withoutP x k) k
def agedP (x : PL) : PL := x.map (fun q => (q.1, q.2 + 1))
def stayP (x : PL) : PL := (agedP x).filter (fun q => decide (q.2 < 10))
def toldP (x : PL) : List PK := ((agedP x).filter (fun q => decide (10 ≤ q.2))).map (·.1)
def keysP (x : PL) : List PK := x.map (·.1)
/-- the watch -/
def putW : PL → PK → Nat → PL
  | [], k, v => [(k, v)]
  | q :: l, k, v => if q.1 = k then (k, v) :: l else q :: putW l k v
def delW : PL → PK → PL
  | [], _ => []
  | q :: l, k => if q.1 = k then l else q :: delW l k

theorem putW_mem {l : PL} {k : PK} {v : Nat} (hn : (keysP l).Nodup) (q : PK × Nat) : q ∈ putW l k v ↔ q = (k, v) ∨ (q ∈ l ∧ q.1 ≠ k) := by
  induction l with
  | nil => simp [putW]
  | cons p l ih =>
    unfold keysP at hn
    rw [List.map_cons, List.nodup_cons] at hn
    unfold putW
    by_cases h : p.1 = k
    · rw [if_pos h, List.mem_cons, List.mem_cons]
      constructor
      · rintro (a | a)
        · exact .inl a
        · refine .inr ⟨.inr a, fun e => hn.1 ?_⟩
          rw [h, ← e]
          exact List.mem_map_of_mem (f := Prod.fst) a
      · rintro (a | ⟨a | a, b⟩)
        · exact .inl a
        · subst a; exact absurd h b
        · exact .inr a
    · rw [if_neg h, List.mem_cons, ih hn.2, List.mem_cons]
      constructor
      · rintro (a | a | ⟨a, b⟩)
        · subst a; exact .inr ⟨.inl rfl, h⟩
        · exact .inl a
        · exact .inr ⟨.inr a, b⟩
      · rintro (a | ⟨a | a, b⟩)
        · exact .inr (.inl a)
        · exact .inl a
        · exact .inr (.inr ⟨a, b⟩)
theorem putW_keys {l : PL} {k : PK} {v : Nat} (x : PK) : x ∈ keysP (putW l k v) ↔ x = k ∨ x ∈ keysP l := by
  induction l with
  | nil => simp [putW, keysP]
  | cons p l ih =>
    unfold keysP at *
    unfold putW
    by_cases h : p.1 = k
    · rw [if_pos h, List.map_cons, List.map_cons, List.mem_cons, List.mem_cons, h]
      constructor
      · rintro (a | a)
        · exact .inl a
        · exact .inr (.inr a)
      · rintro (a | a | a)
        · exact .inl a
        · exact .inl a
        · exact .inr a
    · rw [if_neg h, List.map_cons, List.map_cons, List.mem_cons, List.mem_cons, ih]
      constructor
      · rintro (a | a | a)
        · exact .inr (.inl a)
        · exact .inl a
        · exact .inr (.inr a)
      · rintro (a | a | a)
        · exact .inr (.inl a)
        · exact .inl a
        · exact .inr (.inr a)
theorem putW_nodup {l : PL} {k : PK} {v : Nat} (hn : (keysP l).Nodup) : (keysP (putW l k v)).Nodup := by
  induction l with
  | nil => simp [putW, keysP]
  | cons p l ih =>
    unfold keysP at hn
    rw [List.map_cons, List.nodup_cons] at hn
    unfold putW
    by_cases h : p.1 = k
    · rw [if_pos h]
      unfold keysP
      rw [List.map_cons, List.nodup_cons]
      exact ⟨by rw [← h]; exact hn.1, hn.2⟩
    · rw [if_neg h]
      show (p.1 :: keysP (putW l k v)).Nodup
      rw [List.nodup_cons]
      refine ⟨fun hm => ?_, ih hn.2⟩
      rcases (putW_keys p.1).1 hm with e | e
      · exact h e
      · exact hn.1 e
theorem delW_eq {l : PL} {k : PK} (hn : (keysP l).Nodup) : delW l k = l.filter (fun q => decide (q.1 ≠ k)) := by
  induction l with
  | nil => rfl
  | cons p l ih =>
    unfold keysP at hn
    rw [List.map_cons, List.nodup_cons] at hn
    unfold delW
    by_cases h : p.1 = k
    · rw [if_pos h, List.filter_cons_of_neg (by simp [h])]
      symm
      rw [List.filter_eq_self]
      intro q hq
      simp only [ne_eq, decide_not, Bool.not_eq_true', decide_eq_false_iff_not]
      intro e
      apply hn.1
      rw [h, ← e]
      exact List.mem_map_of_mem (f := Prod.fst) hq
    · rw [if_neg h, List.filter_cons_of_pos (by simp [h]), ih hn.2]
theorem delW_mem {l : PL} {k : PK} (hn : (keysP l).Nodup) (q : PK × Nat) : q ∈ delW l k ↔ q ∈ l ∧ q.1 ≠ k := by
  rw [delW_eq hn, List.mem_filter]; simp
theorem delW_nodup {l : PL} {k : PK} (hn : (keysP l).Nodup) : (keysP (delW l k)).Nodup := by
  rw [delW_eq hn]
  exact hn.sublist (List.filter_sublist.map _)
theorem dels_nodup : ∀ (ks : List PK) {l : PL}, (keysP l).Nodup → (keysP (ks.foldl delW l)).Nodup
  | [], _, h => h
  | k :: ks, l, h => dels_nodup ks (delW_nodup h)
theorem dels_mem : ∀ (ks : List PK) {l : PL}, (keysP l).Nodup → ∀ q, q ∈ ks.foldl delW l ↔ q ∈ l ∧ q.1 ∉ ks
  | [], l, h, q => by simp
  | k :: ks, l, h, q => by
    rw [List.foldl_cons, dels_mem ks (delW_nodup h), delW_mem h, List.mem_cons]
    constructor
    · rintro ⟨⟨a, b⟩, c⟩
      exact ⟨a, fun d => d.elim b c⟩
    · rintro ⟨a, b⟩
      exact ⟨⟨a, fun d => b (.inl d)⟩, fun d => b (.inr d)⟩

/-- the watch at tick 'now', and the document's keys -/
structure RelW (now : Nat) (l x : PL) : Prop where
  srt : x.Pairwise (fun p q => ltP p.1 q.1)
  nod : (keysP l).Nodup
  mem : ∀ (k : PK) (g : Nat), (k, g) ∈ x ↔ ∃ at_, (k, at_) ∈ l ∧ at_ + g = now
  le : ∀ q ∈ l, q.2 ≤ now
theorem RelW.start : RelW 0 [] [] := ⟨List.Pairwise.nil, List.nodup_nil, fun k g => by simp, fun q h => by simp at h⟩
theorem insP_mem {x : PL} {k : PK} (q : PK × Nat) : q ∈ insP x k ↔ q = (k, 0) ∨ q ∈ x := by
  induction x with
  | nil => simp [insP]
  | cons p x ih =>
    unfold insP
    split
    · rw [List.mem_cons]
    · rw [List.mem_cons, ih, List.mem_cons]
      constructor
      · rintro (a | a | a)
        · exact .inr (.inl a)
        · exact .inl a
        · exact .inr (.inr a)
      · rintro (a | a | a)
        · exact .inr (.inl a)
        · exact .inl a
        · exact .inr (.inr a)
theorem insP_srt {k : PK} : ∀ {x : PL}, x.Pairwise (fun p q => ltP p.1 q.1) → (∀ q ∈ x, q.1 ≠ k) → (insP x k).Pairwise (fun p q => ltP p.1 q.1)
  | [], _, _ => List.pairwise_singleton _ _
  | p :: x, h, hk => by
    rw [List.pairwise_cons] at h
    unfold insP
    split
    · rename_i hlt
      rw [List.pairwise_cons]
      refine ⟨fun q hq => ?_, by rw [List.pairwise_cons]; exact h⟩
      rcases List.mem_cons.1 hq with rfl | hq
      · exact hlt
      · exact ltP_trans hlt (h.1 q hq)
    · rename_i hlt
      rw [List.pairwise_cons]
      refine ⟨fun q hq => ?_, insP_srt h.2 (fun q hq => hk q (List.mem_cons_of_mem _ hq))⟩
      rcases (insP_mem q).1 hq with rfl | hq
      · rcases ltP_tri p.1 k with c | c | c
        · exact c
        · exact absurd c (hk p List.mem_cons_self)
        · exact absurd c hlt
      · exact h.1 q hq
theorem without_srt {x : PL} {k : PK} (h : x.Pairwise (fun p q => ltP p.1 q.1)) : (withoutP x k).Pairwise (fun p q => ltP p.1 q.1) := h.sublist List.filter_sublist
theorem without_mem {x : PL} {k : PK} (q : PK × Nat) : q ∈ withoutP x k ↔ q ∈ x ∧ q.1 ≠ k := by unfold withoutP; rw [List.mem_filter]; simp
theorem RelW.touch {now : Nat} {l x : PL} (h : RelW now l x) (k : PK) : RelW now (putW l k now) (touchP x k) := by
  refine ⟨insP_srt (without_srt h.srt) (fun q hq => ((without_mem q).1 hq).2), putW_nodup h.nod, fun j g => ?_, fun q hq => ?_⟩
  · unfold touchP
    rw [insP_mem, without_mem, h.mem]
    constructor
    · rintro (a | ⟨⟨at_, a, b⟩, c⟩)
      · injection a with a1 a2
        subst a1 a2
        exact ⟨now, (putW_mem h.nod _).2 (.inl rfl), by omega⟩
      · exact ⟨at_, (putW_mem h.nod _).2 (.inr ⟨a, c⟩), b⟩
    · rintro ⟨at_, a, b⟩
      rcases (putW_mem h.nod _).1 a with a | ⟨a, c⟩
      · injection a with a1 a2
        subst a1 a2
        exact .inl (by rw [show g = 0 by omega])
      · exact .inr ⟨⟨at_, a, b⟩, c⟩
  · rcases (putW_mem h.nod _).1 hq with rfl | ⟨hq, _⟩
    · exact Nat.le_refl _
    · exact h.le q hq
theorem RelW.drop {now : Nat} {l x : PL} (h : RelW now l x) (k : PK) : RelW now (delW l k) (withoutP x k) := by
  refine ⟨without_srt h.srt, delW_nodup h.nod, fun j g => ?_, fun q hq => h.le q ((delW_mem h.nod q).1 hq).1⟩
  rw [without_mem, h.mem]
  constructor
  · rintro ⟨⟨at_, a, b⟩, c⟩
    exact ⟨at_, (delW_mem h.nod _).2 ⟨a, c⟩, b⟩
  · rintro ⟨at_, a, b⟩
    obtain ⟨a, c⟩ := (delW_mem h.nod _).1 a
    exact ⟨⟨at_, a, b⟩, c⟩
theorem RelW.has {now : Nat} {l x : PL} (h : RelW now l x) (k : PK) : k ∈ keysP l ↔ k ∈ keysP x := by
  unfold keysP
  rw [List.mem_map, List.mem_map]
  constructor
  · rintro ⟨q, hq, rfl⟩
    have := h.le q hq
    exact ⟨(q.1, now - q.2), (h.mem _ _).2 ⟨q.2, hq, by omega⟩, rfl⟩
  · rintro ⟨q, hq, rfl⟩
    obtain ⟨at_, ha, _⟩ := (h.mem q.1 q.2).1 hq
    exact ⟨(q.1, at_), ha, rfl⟩
/-- keys in order, each once: just one such list -/
theorem keys_uniq {l : PL} {p : PK × Nat → Bool} {ks zs : List PK} (hn : (keysP l).Nodup) (hp : ks.Perm ((l.filter p).map (·.1))) (hs : ks.Pairwise (fun x y => ¬ ltP y x)) (hz : zs.Pairwise ltP) (hm : ∀ k, k ∈ zs ↔ ∃ q ∈ l, p q = true ∧ q.1 = k) : ks = zs := by
  have hnd : ks.Nodup := by
    refine hp.symm.nodup ?_
    exact hn.sublist (List.filter_sublist.map _)
  have hlt : ks.Pairwise ltP := by
    refine (List.Pairwise.and hs hnd).imp ?_
    rintro a b ⟨h1, h2⟩
    rcases ltP_tri a b with c | c | c
    · exact c
    · exact absurd c h2
    · exact absurd c h1
  refine pw_uniq ltP_irrefl (fun _ _ _ => ltP_trans) ks zs hlt hz (fun k => ?_)
  rw [hm, hp.mem_iff, List.mem_map]
  constructor
  · rintro ⟨q, hq, rfl⟩
    rw [List.mem_filter] at hq
    exact ⟨q, hq.1, hq.2, rfl⟩
  · rintro ⟨q, hq, hpq, rfl⟩
    exact ⟨q, List.mem_filter.2 ⟨hq, hpq⟩, rfl⟩
theorem RelW.keys {now : Nat} {l x : PL} (h : RelW now l x) {ks : List PK} (hp : ks.Perm ((l.filter (fun _ => true)).map (·.1))) (hs : ks.Pairwise (fun x y => ¬ ltP y x)) : ks = keysP x := by
  refine keys_uniq h.nod hp hs ?_ (fun k => ?_)
  · unfold keysP; rw [List.pairwise_map]; exact h.srt
  · rw [← h.has k]
    unfold keysP
    rw [List.mem_map]
    constructor
    · rintro ⟨q, hq, rfl⟩; exact ⟨q, hq, rfl, rfl⟩
    · rintro ⟨q, hq, _, rfl⟩; exact ⟨q, hq, rfl⟩
theorem aged_mem {x : PL} (k : PK) (g : Nat) : (k, g) ∈ agedP x ↔ 1 ≤ g ∧ (k, g - 1) ∈ x := by
  unfold agedP
  rw [List.mem_map]
  constructor
  · rintro ⟨q, hq, e⟩
    injection e with e1 e2
    subst e1 e2
    exact ⟨by omega, by simpa using hq⟩
  · rintro ⟨h1, h2⟩
    exact ⟨_, h2, by simp; omega⟩
theorem aged_srt {x : PL} (h : x.Pairwise (fun p q => ltP p.1 q.1)) : (agedP x).Pairwise (fun p q => ltP p.1 q.1) := by
  unfold agedP
  rw [List.pairwise_map]
  exact h
theorem RelW.told {now : Nat} {l x : PL} (h : RelW now l x) {ks : List PK} (hp : ks.Perm ((l.filter (fun q => decide (10 ≤ now + 1 - q.2))).map (·.1))) (hs : ks.Pairwise (fun x y => ¬ ltP y x)) : ks = toldP x := by
  refine keys_uniq h.nod hp hs ?_ (fun k => ?_)
  · unfold toldP
    rw [List.pairwise_map]
    exact (aged_srt h.srt).sublist List.filter_sublist
  · unfold toldP
    rw [List.mem_map]
    constructor
    · rintro ⟨⟨j, g⟩, hq, rfl⟩
      rw [List.mem_filter, aged_mem, h.mem] at hq
      obtain ⟨⟨hg, at_, ha, hb⟩, hd⟩ := hq
      simp only [decide_eq_true_eq] at hd
      exact ⟨(j, at_), ha, by simp only [decide_eq_true_eq]; omega, rfl⟩
    · rintro ⟨⟨j, at_⟩, hq, hd, rfl⟩
      simp only [decide_eq_true_eq] at hd
      have := h.le _ hq
      simp only at this
      refine ⟨(j, now + 1 - at_), List.mem_filter.2 ⟨(aged_mem _ _).2 ⟨by omega, (h.mem _ _).2 ⟨at_, hq, by omega⟩⟩, by simp only [decide_eq_true_eq]; exact hd⟩, rfl⟩
theorem RelW.tick {now : Nat} {l x : PL} (h : RelW now l x) : RelW (now + 1) ((toldP x).foldl delW l) (stayP x) := by
  refine ⟨(aged_srt h.srt).sublist List.filter_sublist, dels_nodup _ h.nod, fun k g => ?_, fun q hq => by have := h.le q ((dels_mem _ h.nod q).1 hq).1; omega⟩
  have htold : ∀ k, k ∈ toldP x ↔ ∃ at_, (k, at_) ∈ l ∧ 10 ≤ now + 1 - at_ := by
    intro k
    unfold toldP
    rw [List.mem_map]
    constructor
    · rintro ⟨⟨j, g⟩, hq, rfl⟩
      rw [List.mem_filter, aged_mem, h.mem] at hq
      obtain ⟨⟨hg, at_, ha, hb⟩, hd⟩ := hq
      simp only [decide_eq_true_eq] at hd
      exact ⟨at_, ha, by omega⟩
    · rintro ⟨at_, ha, hd⟩
      have := h.le _ ha
      simp only at this
      exact ⟨(k, now + 1 - at_), List.mem_filter.2 ⟨(aged_mem _ _).2 ⟨by omega, (h.mem _ _).2 ⟨at_, ha, by omega⟩⟩, by simp only [decide_eq_true_eq]; exact hd⟩, rfl⟩
  unfold stayP
  rw [List.mem_filter, aged_mem, h.mem]
  constructor
  · rintro ⟨⟨hg, at_, ha, hb⟩, hd⟩
    simp only [decide_eq_true_eq] at hd
    refine ⟨at_, (dels_mem _ h.nod _).2 ⟨ha, fun ht => ?_⟩, by omega⟩
    obtain ⟨at2, h2, h3⟩ := (htold k).1 ht
    have e : at2 = at_ := by
      have hpw := h.nod
      unfold keysP at hpw
      have inj : ∀ (l : PL), (l.map (·.1)).Nodup → ∀ k a b, (k, a) ∈ l → (k, b) ∈ l → a = b := by
        intro l
        induction l with
        | nil => intro _ k a b h; simp at h
        | cons p l ih =>
          intro hn k a b h1 h2
          rw [List.map_cons, List.nodup_cons] at hn
          rcases List.mem_cons.1 h1 with e1 | h1 <;> rcases List.mem_cons.1 h2 with e2 | h2
          · rw [← e1] at e2; injection e2 with _ e2; exact e2.symm
          · exfalso; apply hn.1; rw [← e1]; have h9 := List.mem_map_of_mem (f := Prod.fst) h2; exact h9
          · exfalso; apply hn.1; rw [← e2]; have h9 := List.mem_map_of_mem (f := Prod.fst) h1; exact h9
          · exact ih hn.2 k a b h1 h2
      exact inj l hpw k at2 at_ h2 ha
    omega
  · rintro ⟨at_, ha, hb⟩
    obtain ⟨ha, hnt⟩ := (dels_mem _ h.nod _).1 ha
    have h10 : ¬ 10 ≤ now + 1 - at_ := fun h3 => hnt ((htold k).2 ⟨at_, ha, h3⟩)
    have := h.le _ ha
    simp only at this
    exact ⟨⟨by omega, at_, ha, by omega⟩, by simp only [decide_eq_true_eq]; omega⟩
theorem stay_len (x : PL) : (stayP x).length ≤ x.length := by
  unfold stayP
  refine Nat.le_trans (List.length_filter_le _ _) ?_
  unfold agedP
  simp
theorem told_len (x : PL) : (toldP x).length ≤ x.length := by
  unfold toldP
  rw [List.length_map]
  refine Nat.le_trans (List.length_filter_le _ _) ?_
  unfold agedP
  simp
theorem insP_len (x : PL) (k : PK) : (insP x k).length = x.length + 1 := by
  induction x with
  | nil => rfl
  | cons p x ih =>
    unfold insP
    split <;> simp [ih]
theorem touch_len (x : PL) (k : PK) : (touchP x k).length ≤ x.length + 1 := by
  unfold touchP
  rw [insP_len]
  have : (withoutP x k).length ≤ x.length := List.length_filter_le _ _
  omega
end Go.Proofs.Ytlgngnkaiidbeaa
