/- Ranging over a map whose keys are pairs of ints: whichever entry comes next is one of those to come. -/
import Derived.Test.YtlgngnkaiidbeaaMapI
import Derived.Maps.RangeWalk
set_option maxRecDepth 100000
set_option linter.unusedVariables false
set_option linter.unusedSimpArgs false
namespace Go.Proofs.Ytlgngnkaiidbeaa
open Go.RowKit

/-- block r is an iterator over the map in block b, which holds l; todo is to come -/
def RngI (w : World) (r b : Nat) (l todo : KL) : Prop := ∃ es clock seen c0, w.heap[r]? = some (.mapIter (some b) clock seen c0) ∧ w.heap[b]? = some (.map es clock) ∧ es.toList.map (fun e => (e.key, e.val)) = l.map (fun p => (keyV p.1, p.2)) ∧
  (es.toList.map (·.born)).Nodup ∧ (∀ e ∈ es.toList, e.born < clock) ∧ clock ≤ c0 ∧ (leftOf es seen).toList.map (fun e => (e.key, e.val)) = todo.map (fun p => (keyV p.1, p.2))
section rng
variable {w w1 : World} {r b : Nat} {l todo : KL}
theorem RngI.map (h : RngI w r b l todo) : MapI w b l := by
  obtain ⟨es, clock, seen, c0, h1, h2, h3, h4, h5, h6, h7⟩ := h
  exact ⟨es, clock, h2, h3, h4, h5⟩
theorem RngI.lt (h : RngI w r b l todo) : r < w.heap.size := by obtain ⟨es, clock, seen, c0, h1, _⟩ := h; exact (Array.getElem?_eq_some_iff.1 h1).1
theorem RngI.grown {row : Option Nat} (h : RngI w r b l todo) (hg : w.grownBy w1 row) (hr : some b ≠ row) (hr2 : some r ≠ row) : RngI w1 r b l todo := by
  have hl := h.lt
  have hl2 := h.map.lt
  obtain ⟨es, clock, seen, c0, h1, h2, h3⟩ := h
  exact ⟨es, clock, seen, c0, (hg.block r hl hr2).trans h1, (hg.block b hl2 hr).trans h2, h3⟩
theorem RngI.ext (h : RngI w r b l todo) (e : Ext w w1) : RngI w1 r b l todo := by
  obtain ⟨es, clock, seen, c0, h1, h2, h3⟩ := h
  exact ⟨es, clock, seen, c0, e.block h1, e.block h2, h3⟩
theorem filter_ne_split {es : List MapEntry} (hnd : (es.map (·.born)).Nodup) {X Y : List MapEntry} {e : MapEntry} (hs : es = X ++ e :: Y) : es.filter (fun x => !(x.born == e.born)) = X ++ Y := by
  subst hs
  rw [List.map_append, List.map_cons, List.nodup_append] at hnd
  obtain ⟨_, h2, h3⟩ := hnd
  rw [List.nodup_cons] at h2
  rw [List.filter_append, List.filter_cons_of_neg (by simp)]
  congr 1
  · rw [List.filter_eq_self]
    intro a ha
    have := h3 a.born (List.mem_map_of_mem ha) e.born List.mem_cons_self
    simpa using this
  · rw [List.filter_eq_self]
    intro a ha
    have : a.born ≠ e.born := fun k => h2.1 (by rw [← k]; exact List.mem_map_of_mem ha)
    simpa using this
open Go.ChangeMaps in
theorem setBlock_same {w : World} {r : Nat} {o0 : Obj} (h : w.heap[r]? = some o0) (o : Obj) : (setBlock w r o).heap[r]? = some o := by
  have hl : r < w.heap.size := (Array.getElem?_eq_some_iff.1 h).1
  simp [setBlock, hl]
open Go.ChangeMaps in
theorem setBlock_other {w : World} {r k : Nat} (o : Obj) (hne : k ≠ r) : (setBlock w r o).heap[k]? = w.heap[k]? := by
  simp [setBlock, Array.getElem?_setIfInBounds, Ne.symm hne]
open Go.ChangeMaps in
theorem RngI.next (h : RngI w r b l todo) (hrb : r ≠ b) {P : Program} (ty : TypeId) :
    (todo = [] ∧ (Instr.next (.pointer (some ⟨r, 0, none⟩)) false ty).run P w = .ok (.tuple #[.bool false]) w) ∨
    ∃ X Y k v w', todo = X ++ (k, v) :: Y ∧ (Instr.next (.pointer (some ⟨r, 0, none⟩)) false ty).run P w = .ok (.tuple #[.bool true, keyV k, v]) w' ∧ RngI w' r b l (X ++ Y) ∧ w.grownBy w' (some r) ∧ w'.heap.size = w.heap.size ∧
      (Instr.entry (.pointer (some ⟨r, 0, none⟩))).run P w' = .ok (.tuple #[keyV k, v]) w' := by
  obtain ⟨es, clock, seen, c0, h1, h2, h3, h4, h5, h6, h7⟩ := h
  rcases run_next_at (P := P) w ty r b clock c0 seen es clock h1 h2 h5 h6 with ⟨h0, hrun⟩ | ⟨e, he, w1, hw1, hrun⟩
  · refine .inl ⟨?_, hrun⟩
    have : (leftOf es seen).toList = [] := by
      apply List.eq_nil_of_length_eq_zero; simpa using h0
    rw [this] at h7
    cases todo with
    | nil => rfl
    | cons p t => cases h7
  · refine .inr ?_
    obtain ⟨X, Y, hXY⟩ := List.append_of_mem he
    rw [hXY, List.map_append, List.map_cons] at h7
    obtain ⟨TX, T2, ht, hx, h8⟩ := List.map_eq_append_iff.1 h7.symm
    obtain ⟨p, TY, rfl, hp, hy⟩ := List.map_eq_cons_iff.1 h8
    obtain ⟨k, v⟩ := p
    injection hp with hk hv
    simp only at hk hv
    have hes : e ∈ es.toList := by
      have : e ∈ leftOf es seen := by simpa using he
      unfold leftOf at this
      simp at this
      simpa using this.1
    have hnd : ((leftOf es seen).toList.map (·.born)).Nodup := by
      unfold leftOf
      rw [Array.toList_filter]
      exact h4.sublist (List.filter_sublist.map _)
    have hne : w1.heap = w.heap := by rcases hw1 with rfl | rfl <;> rfl
    have hr1 : w1.heap[r]? = some (.mapIter (some b) clock seen c0) := by rw [hne]; exact h1
    have hb1 : (setBlock w1 r (.mapIter (some b) clock (seen.push e.born) clock)).heap[b]? = some (.map es clock) := by
      rw [setBlock_other _ (fun k => hrb k.symm), hne]; exact h2
    have hr2 := setBlock_same hr1 (.mapIter (some b) clock (seen.push e.born) clock)
    refine ⟨TX, TY, k, v, _, ht, by rw [hk, hv]; exact hrun, ⟨es, clock, seen.push e.born, clock, hr2, hb1, h3, h4, h5, Nat.le_refl _, ?_⟩, ?_, ?_, by rw [hk, hv]; exact run_entry_at _ r b clock seen es clock e hr2 hb1 hes h4⟩
    · have : (leftOf es (seen.push e.born)).toList = X ++ Y := by
        rw [← filter_ne_split hnd hXY]
        unfold leftOf
        rw [Array.toList_filter, Array.toList_filter, List.filter_filter]
        apply List.filter_congr
        intro x _
        rw [Bool.eq_iff_iff]
        simp [Array.contains_iff_mem, not_or]
        constructor
        · rintro ⟨a, b⟩; exact ⟨b, a⟩
        · rintro ⟨a, b⟩; exact ⟨b, a⟩
      rw [this, List.map_append, List.map_append, hx, hy]
    · exact ⟨by rcases hw1 with rfl | rfl <;> rfl, by rcases hw1 with rfl | rfl <;> rfl, by rcases hw1 with rfl | rfl <;> rfl, by simp [setBlock, hne], fun i _ hi => by rw [setBlock_other _ (fun k => hi (by rw [k])), hne]⟩
    · simp [setBlock, hne]
end rng
section laws
variable {P : Program} (w : World) {ops : Array Oper} {rest : List Oper} {o : Oper} {a : Act} {Q : Exit → Act → World → Prop}
/-- 'range m' -/
theorem rgI (hg : o.guard = none) (m : Operand) (t : TypeId) (hop : o.op = Op.range t m) (k e : TypeId) (ht : P.underlying t = some (.map k e)) (b : Nat) (l : KL) (hm : a.eval m = .map (some b)) (hown : MapI w b l)
    (hK : ∀ r w', w.heap.size = r → RngI w' r b l l → Ext w w' → w'.heap.size = r + 1 → wpList P ops Q rest (a.put o.dst (.pointer (some ⟨r, 0, none⟩))) w') :
    wpList P ops Q (o :: rest) a w := by
  refine wpList_plain hg fun K' hK' => ?_
  obtain ⟨es, clock, h2, h3, h4, h5⟩ := hown
  have h1 := MapKept.run_getObj_map (P := P) h2
  unfold Oper.wp
  simp [execOp, hop, hm, Instr.range, run_underlying ht, h1, Result.andThen, newObj]
  refine hK' _ _ (hK w.heap.size _ rfl ⟨es, clock, #[], clock, heap_alloc_new w _, ((Ext.refl w).alloc _).block h2, h3, h4, h5, Nat.le_refl _, ?_⟩ ((Ext.refl w).alloc _) (by simp))
  rw [← h3]
  congr 1
  unfold leftOf
  simp
/-- the step -/
theorem nxI (hg : o.guard = none) (it : Operand) (hop : o.op = Op.next it false) (r b : Nat) (l todo : KL) (hit : a.eval it = .pointer (some ⟨r, 0, none⟩)) (h : RngI w r b l todo) (hrb : r ≠ b)
    (hDone : todo = [] → wpList P ops Q rest (a.put o.dst (.tuple #[.bool false])) w)
    (hMore : ∀ (X Y : KL) (k : Int × Int) (v : Value) (w' : World), todo = X ++ (k, v) :: Y → RngI w' r b l (X ++ Y) → w.grownBy w' (some r) → w'.heap.size = w.heap.size → (Instr.entry (.pointer (some ⟨r, 0, none⟩))).run P w' = .ok (.tuple #[keyV k, v]) w' →
      wpList P ops Q rest (a.put o.dst (.tuple #[.bool true, keyV k, v])) w') :
    wpList P ops Q (o :: rest) a w := by
  refine wpList_plain hg fun K' hK' => ?_
  unfold Oper.wp
  rcases h.next hrb (P := P) o.type with ⟨h0, hrun⟩ | ⟨X, Y, k, v, w', h0, hrun, h1, h2, h3, h4⟩
  · simp [execOp, hop, hit, hrun, Result.andThen]
    exact hK' _ _ (hDone h0)
  · simp [execOp, hop, hit, hrun, Result.andThen]
    exact hK' _ _ (hMore X Y k v w' h0 h1 h2 h3 h4)
end laws
end Go.Proofs.Ytlgngnkaiidbeaa
