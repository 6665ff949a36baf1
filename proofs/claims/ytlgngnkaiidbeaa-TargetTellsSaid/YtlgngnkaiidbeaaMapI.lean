/- Maps of the call's own whose keys are pairs of ints, as lists in the order in which their keys came: lookup, update, delete. -/
import Derived.Test.YtlgngnkaiidbeaaArr
import Derived.MapKept
import Derived.ChangeMaps4
set_option maxRecDepth 100000
set_option linter.unusedVariables false
set_option linter.unusedSimpArgs false
namespace Go.Proofs.Ytlgngnkaiidbeaa
open Go.RowKit

abbrev keyV (p : Int × Int) : Value := .agg #[.int .i64 p.1, .int .i64 p.2]
abbrev KL := List ((Int × Int) × Value)
/-- block b is a map with these keys and values -/
def MapI (w : World) (b : Nat) (l : KL) : Prop := ∃ es clock, w.heap[b]? = some (.map es clock) ∧ es.toList.map (fun e => (e.key, e.val)) = l.map (fun p => (keyV p.1, p.2)) ∧ (es.toList.map (·.born)).Nodup ∧ ∀ e ∈ es.toList, e.born < clock
/-- the place of a key, from i on -/
def fI : KL → Int × Int → Nat → Option (Nat × Value)
  | [], _, _ => none
  | p :: l, k, i => if p.1 = k then some (i, p.2) else fI l k (i + 1)
def putI : KL → Int × Int → Value → KL
  | [], k, v => [(k, v)]
  | p :: l, k, v => if p.1 = k then (k, v) :: l else p :: putI l k v
def delI : KL → Int × Int → KL
  | [], _ => []
  | p :: l, k => if p.1 = k then l else p :: delI l k

section mapi
variable {w w1 : World} {b : Nat} {l : KL}
theorem MapI.made (w : World) : MapI (w.alloc (.map #[] 0)) w.heap.size [] := ⟨#[], 0, heap_alloc_new w _, rfl, List.nodup_nil, fun e h => by simp at h⟩
theorem MapI.lt (h : MapI w b l) : b < w.heap.size := by obtain ⟨es, c, h, _⟩ := h; exact (Array.getElem?_eq_some_iff.1 h).1
theorem MapI.grown {row : Option Nat} (h : MapI w b l) (hg : w.grownBy w1 row) (hr : some b ≠ row) : MapI w1 b l := by
  have hl := h.lt
  obtain ⟨es, c, h, e⟩ := h
  exact ⟨es, c, (hg.block b hl hr).trans h, e⟩
theorem MapI.ext (h : MapI w b l) (e : Ext w w1) : MapI w1 b l := by
  obtain ⟨es, c, h, e2⟩ := h
  exact ⟨es, c, e.block h, e2⟩
theorem fI_le {k : Int × Int} : ∀ {l : KL} {i j : Nat} {v : Value}, fI l k i = some (j, v) → i ≤ j ∧ l[j - i]? = some (k, v)
  | [], _, _, _, h => by cases h
  | p :: l, i, j, v, h => by
    unfold fI at h
    split at h
    · rename_i hp
      injection h with h
      injection h with h1 h2
      subst h1 h2
      refine ⟨Nat.le_refl _, ?_⟩
      rw [Nat.sub_self, List.getElem?_cons_zero, ← hp]
    · obtain ⟨h1, h2⟩ := fI_le h
      refine ⟨by omega, ?_⟩
      rw [show j - i = (j - (i + 1)) + 1 by omega, List.getElem?_cons_succ]
      exact h2
theorem fI_put {k : Int × Int} {v : Value} : ∀ {l : KL} {i : Nat}, (∀ j u, fI l k i = some (j, u) → putI l k v = l.set (j - i) (k, v)) ∧ (fI l k i = none → putI l k v = l ++ [(k, v)])
  | [], i => ⟨(fun j u h => by cases h), fun _ => rfl⟩
  | p :: l, i => by
    obtain ⟨h1, h2⟩ := fI_put (k := k) (v := v) (l := l) (i := i + 1)
    unfold fI putI
    by_cases hp : p.1 = k
    · rw [if_pos hp, if_pos hp]
      refine ⟨fun j u h => ?_, fun h => by cases h⟩
      injection h with h
      injection h with h3 h4
      subst h3
      rw [Nat.sub_self]; rfl
    · rw [if_neg hp, if_neg hp]
      refine ⟨fun j u h => ?_, fun h => by rw [h2 h]; rfl⟩
      have h5 := (fI_le h).1
      rw [h1 j u h, show j - i = (j - (i + 1)) + 1 by omega]
      rfl
theorem fI_del {k : Int × Int} : ∀ {l : KL} {i : Nat}, (∀ j u, fI l k i = some (j, u) → delI l k = l.eraseIdx (j - i)) ∧ (fI l k i = none → delI l k = l)
  | [], i => ⟨(fun j u h => by cases h), fun _ => rfl⟩
  | p :: l, i => by
    obtain ⟨h1, h2⟩ := fI_del (k := k) (l := l) (i := i + 1)
    unfold fI delI
    by_cases hp : p.1 = k
    · rw [if_pos hp, if_pos hp]
      refine ⟨fun j u h => ?_, fun h => by cases h⟩
      injection h with h
      injection h with h3 h4
      subst h3
      rw [Nat.sub_self]; rfl
    · rw [if_neg hp, if_neg hp]
      refine ⟨fun j u h => ?_, fun h => by rw [h2 h]⟩
      have h5 := (fI_le h).1
      rw [h1 j u h, show j - i = (j - (i + 1)) + 1 by omega]
      rfl
end mapi

/-- what a program's type of pairs must answer -/
structure PairKey (P : Program) (K : TypeId) : Prop where
  arr : ∃ n e, P.underlying K = some (.array n e)
  eq : ∀ (a b c d : Int) (w : World), (Op.equal K (.agg #[.int .i64 a, .int .i64 b]) (.agg #[.int .i64 c, .int .i64 d])).run P w = .ok (decide (a = c) && decide (b = d)) w
  chk : ∀ (e : Bool) (a b : Int) (w : World), (Instr.checkKey e 10000 K (.agg #[.int .i64 a, .int .i64 b])).run P w = .ok () w
section runs
variable {P : Program} {K : TypeId}
theorem PairKey.asking (H : PairKey P K) (k : Int × Int) (w : World) : ∀ (es : List MapEntry) (l : KL) (i : Nat), es.map (fun e => (e.key, e.val)) = l.map (fun p => (keyV p.1, p.2)) → (Instr.findAsking K (keyV k) es i).run P w = .ok (fI l k i) w
  | [], [], i, _ => rfl
  | [], p :: l, i, h => by cases h
  | e :: es, [], i, h => by cases h
  | e :: es, p :: l, i, h => by
    rw [List.map_cons, List.map_cons] at h
    injection h with h1 h2
    injection h1 with hk hv
    unfold Instr.findAsking fI
    have he := H.eq k.1 k.2 p.1.1 p.1.2 w
    rw [hk]
    have hd : (decide (k.1 = p.1.1) && decide (k.2 = p.1.2)) = decide (p.1 = k) := by
      rw [Bool.eq_iff_iff]
      simp only [Bool.and_eq_true, decide_eq_true_eq, Prod.ext_iff]
      constructor
      · rintro ⟨a, b⟩; exact ⟨a.symm, b.symm⟩
      · rintro ⟨a, b⟩; exact ⟨a.symm, b.symm⟩
    rw [hd] at he
    have he' : (Op.equal K (keyV k) (keyV p.1)).run P w = .ok (decide (p.1 = k)) w := he
    rw [Sem.run_bind, he', Result.andThen_ok]
    by_cases hp : p.1 = k
    · simp only [hp, decide_true, if_true]
      rw [hv]; rfl
    · simp only [hp, decide_false, if_false, Bool.false_eq_true]
      exact H.asking k w es l (i + 1) h2
theorem PairKey.find (H : PairKey P K) (k : Int × Int) (w : World) (es : Array MapEntry) (l : KL) (h : es.toList.map (fun e => (e.key, e.val)) = l.map (fun p => (keyV p.1, p.2))) : (Instr.findKey K (keyV k) es.toList).run P w = .ok (fI l k 0) w := by
  obtain ⟨n, e, ha⟩ := H.arr
  unfold Instr.findKey
  rw [Sem.run_bind, run_underlying ha, Result.andThen_ok]
  generalize hes : es.toList = L at h
  cases L with
  | nil =>
    cases l with
    | nil => rfl
    | cons p l => cases h
  | cons x L =>
    cases l with
    | nil => cases h
    | cons p l =>
      have hn : Instr.findNow (.array n e) (keyV k) (x :: L) 0 = none := rfl
      simp only [hn]
      exact H.asking k w (x :: L) (p :: l) 0 h
theorem run_lookI (H : PairKey P K) (T E : TypeId) (ht : P.underlying T = some (.map K E)) (z : Value) (w : World) (hz : (zeroValue E).run P w = .ok z w) (b : Nat) (l : KL) (h : MapI w b l) (k : Int × Int) :
    (Instr.lookup T (.map (some b)) (keyV k) true).run P w = .ok (.tuple #[((fI l k 0).map (·.2)).getD z, .bool (fI l k 0).isSome]) w := by
  obtain ⟨es, c, hb, he, _, _⟩ := h
  unfold Instr.lookup
  have h1 := MapKept.run_getObj_map (P := P) hb
  have h2 := H.find k w es l he
  have h3 : ∀ e, (Instr.checkKey e 10000 K (keyV k)).run P w = .ok () w := fun e => H.chk e k.1 k.2 w
  simp only [Sem.run_bind, run_underlying ht, Result.andThen_ok, h1, Sem.run_pure, h3, h2]
  cases hf : fI l k 0 with
  | none => simp [hz, Result.andThen]
  | some x => simp [Result.andThen]
theorem same_keyV (k : Int × Int) : Instr.sameBits 10000 (keyV k) (keyV k) = true := by
  unfold keyV
  simp [Instr.sameBits]
open Go.ChangeMaps in
theorem run_updI (H : PairKey P K) (T E : TypeId) (ht : P.underlying T = some (.map K E)) (w : World) (b : Nat) (l : KL) (h : MapI w b l) (k : Int × Int) (v : Value) :
    ∃ w', (Instr.mapUpdate T (.map (some b)) (keyV k) v).run P w = .ok () w' ∧ MapI w' b (putI l k v) ∧ w.grownBy w' (some b) ∧ w'.heap.size = w.heap.size := by
  obtain ⟨es, c, hb, he, hnd, hbc⟩ := h
  have h1 := MapKept.run_getObj_map (P := P) hb
  have h2 := H.find k w es l he
  have h3 : ∀ e, (Instr.checkKey e 10000 K (keyV k)).run P w = .ok () w := fun e => H.chk e k.1 k.2 w
  have hset : ∀ o : Obj, (setObj b o).run P w = .ok () (setBlock w b o) := fun o => MapKept.run_setObj_map o hb
  have hgr : ∀ o : Obj, w.grownBy (setBlock w b o) (some b) := fun o => ⟨rfl, rfl, rfl, by simp [setBlock], fun i _ hi => heap_setBlock_other hb _ (fun e => hi (by rw [e]))⟩
  have hsz : ∀ o : Obj, (setBlock w b o).heap.size = w.heap.size := fun o => by simp [setBlock]
  unfold Instr.mapUpdate
  simp only [Sem.run_bind, run_underlying ht, Result.andThen_ok, h1, h3, h2]
  cases hf : fI l k 0 with
  | none =>
    simp only [hset]
    refine ⟨_, rfl, ⟨_, _, heap_setBlock_same hb _, ?_, ?_, ?_⟩, hgr _, hsz _⟩
    · rw [(fI_put (v := v) (i := 0)).2 hf]
      simp [he]
    · rw [Array.toList_push, List.map_append, List.nodup_append]
      refine ⟨hnd, by simp, fun x hx y hy => ?_⟩
      obtain ⟨e0, h4, rfl⟩ := List.mem_map.1 hx
      have := hbc e0 h4
      simp at hy
      omega
    · intro e0 h4
      rw [Array.toList_push, List.mem_append] at h4
      rcases h4 with h4 | h4
      · have := hbc e0 h4; omega
      · simp at h4; rw [h4]; simp
  | some x =>
    obtain ⟨j, u⟩ := x
    obtain ⟨_, hj⟩ := fI_le hf
    rw [Nat.sub_zero] at hj
    have hel : (es.toList.map (fun e => (e.key, e.val)))[j]? = some (keyV k, u) := by rw [he, List.getElem?_map, hj]; rfl
    rw [List.getElem?_map] at hel
    obtain ⟨e0, h4, h5⟩ := Option.map_eq_some_iff.1 hel
    have h6 : es[j]? = some e0 := by simpa using h4
    have hk : ((es[j]?).map (·.key)).getD (keyV k) = keyV k := by rw [h6]; exact congrArg Prod.fst h5
    simp only [hk, Instr.keyThatStays, same_keyV, if_true, Sem.run_bind, Sem.run_pure, Result.andThen_ok, hset]
    have hbn : ∀ f : MapEntry → MapEntry, (∀ e, (f e).born = e.born) → (es.modify j f).toList.map (·.born) = es.toList.map (·.born) := by
      intro f hf
      rw [Array.toList_modify]
      apply List.ext_getElem?
      intro i
      simp only [List.getElem?_map, List.getElem?_modify]
      by_cases hij : j = i
      · subst hij
        cases es.toList[j]? <;> simp [hf]
      · simp [hij]
    refine ⟨_, rfl, ⟨_, _, heap_setBlock_same hb _, ?_, ?_, ?_⟩, hgr _, hsz _⟩
    · rw [(fI_put (v := v) (i := 0)).1 j u hf, Nat.sub_zero, List.map_set, ← he]
      rw [Array.toList_modify]
      apply List.ext_getElem?
      intro i
      simp only [List.getElem?_map, List.getElem?_modify, List.getElem?_set, List.length_map]
      by_cases hij : j = i
      · subst hij
        simp [h4]
        exact (Array.getElem?_eq_some_iff.1 h6).1
      · simp [hij]
    · rw [hbn (fun e => { key := keyV k, val := v, born := e.born }) (fun e => rfl)]; exact hnd
    · intro e1 h7
      have h8 : e1.born ∈ es.toList.map (·.born) := by rw [← hbn (fun e => { key := keyV k, val := v, born := e.born }) (fun e => rfl)]; exact List.mem_map_of_mem h7
      obtain ⟨e2, h9, h10⟩ := List.mem_map.1 h8
      rw [← h10]; exact hbc e2 h9
open Go.ChangeMaps in
theorem run_delI (H : PairKey P K) (T E : TypeId) (ht : P.underlying T = some (.map K E)) (w : World) (b : Nat) (l : KL) (h : MapI w b l) (k : Int × Int) (ty : TypeId) :
    ∃ w', (Builtin.delete_ #[T, K] ty #[.map (some b), keyV k]).run P w = .ok (.tuple #[]) w' ∧ MapI w' b (delI l k) ∧ w.grownBy w' (some b) ∧ w'.heap.size = w.heap.size := by
  obtain ⟨es, c, hb, he, hnd, hbc⟩ := h
  have h1 := MapKept.run_getObj_map (P := P) hb
  have h2 := H.find k w es l he
  have h3 : ∀ e, (Instr.checkKey e 10000 K (keyV k)).run P w = .ok () w := fun e => H.chk e k.1 k.2 w
  have hset : ∀ o : Obj, (setObj b o).run P w = .ok () (setBlock w b o) := fun o => MapKept.run_setObj_map o hb
  have hgr : ∀ o : Obj, w.grownBy (setBlock w b o) (some b) := fun o => ⟨rfl, rfl, rfl, by simp [setBlock], fun i _ hi => heap_setBlock_other hb _ (fun e => hi (by rw [e]))⟩
  have hsz : ∀ o : Obj, (setBlock w b o).heap.size = w.heap.size := fun o => by simp [setBlock]
  have a0 : (#[T, K] : Array TypeId)[0]? = some T := rfl
  have a1 : (#[Value.map (some b), keyV k] : Array Value)[0]? = some (.map (some b)) := rfl
  have a2 : (#[Value.map (some b), keyV k] : Array Value)[1]? = some (keyV k) := rfl
  unfold Builtin.delete_
  simp only [a0, a1, a2, Sem.run_bind, run_underlying ht, Result.andThen_ok, h1, h3, h2]
  cases hf : fI l k 0 with
  | none =>
    simp only [Sem.run_bind, hset, Result.andThen_ok, Sem.run_pure]
    refine ⟨_, rfl, ⟨_, _, heap_setBlock_same hb _, ?_, hnd, hbc⟩, hgr _, hsz _⟩
    rw [(fI_del (i := 0)).2 hf]
    exact he
  | some x =>
    obtain ⟨j, u⟩ := x
    simp only [Sem.run_bind, hset, Result.andThen_ok, Sem.run_pure]
    have e1 : (es.eraseIdxIfInBounds j).toList = es.toList.eraseIdx j := by simp
    have hsl : (es.toList.eraseIdx j).Sublist es.toList := List.eraseIdx_sublist _ _
    refine ⟨_, rfl, ⟨_, _, heap_setBlock_same hb _, ?_, ?_, ?_⟩, hgr _, hsz _⟩
    · rw [(fI_del (i := 0)).1 j u hf, Nat.sub_zero]
      rw [e1, map_eraseIdx, map_eraseIdx, he]
    · rw [e1]; exact hnd.sublist (hsl.map _)
    · intro e2 h7
      rw [e1] at h7
      exact hbc e2 (hsl.subset h7)
end runs
end Go.Proofs.Ytlgngnkaiidbeaa
