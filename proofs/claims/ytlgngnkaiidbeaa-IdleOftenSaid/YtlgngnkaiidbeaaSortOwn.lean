/- slices.SortFunc of structs on a row of the call's own: what the row holds behind it. -/
import Derived.Test.YtlgngnkaiidbeaaShareD
import Derived.Shelf.SlSortCmp.NoneTotal
set_option maxRecDepth 100000
set_option linter.unusedVariables false
set_option linter.unusedSimpArgs false
set_option linter.unusedSectionVars false
namespace Go.Proofs.Ytlgngnkaiidbeaa
open Go.RowKit Go.Shelf

section so
variable {α : Type} [Inhabited α] {cs : α → List Value} {k : Nat}
theorem flat_toArray (hk : ∀ x, (cs x).length = k) (xs : List α) : Sort.flatK cs k xs.toArray = (xs.flatMap cs).toArray := by
  apply Array.ext_getElem?
  intro t
  by_cases ht : t < xs.length * k
  · have k0 : 0 < k := by
      rcases Nat.eq_zero_or_pos k with h | h
      · subst h; simp at ht
      · exact h
    have hi : t / k < xs.length := Nat.div_lt_of_lt_mul (by rw [Nat.mul_comm]; exact ht)
    have hj : t % k < k := Nat.mod_lt _ k0
    have e := flat_get hk xs (t / k) (t % k) hi hj
    rw [Nat.div_add_mod' t k] at e
    have hs : t < (Sort.flatK cs k xs.toArray).size := by rw [Sort.size_flatK]; simpa using ht
    have e2 := Sort.get_flatK cs k xs.toArray t (by simpa using ht)
    rw [getElem!_pos _ t hs] at e2
    rw [Array.getElem?_eq_getElem hs, e2, List.getElem?_toArray, e]
    have e3 : xs.toArray[t / k]! = xs[t / k] := by simp [hi]
    rw [e3, getElem!_pos _ (t % k) (by rw [hk]; exact hj), List.getElem?_eq_getElem (by rw [hk]; exact hj)]
  · rw [Array.getElem?_eq_none (by rw [Sort.size_flatK]; simpa using ht), List.getElem?_toArray, List.getElem?_eq_none (by rw [flat_length hk]; omega)]
theorem putCells_take (F cur : Array Value) (h : F.size ≤ cur.size) : (Sort.putCells id 0 F cur).toList.take F.size = F.toList := by
  apply List.ext_getElem?
  intro t
  rw [List.getElem?_take]
  by_cases ht : t < F.size
  · rw [if_pos ht]
    have hc : t < cur.size := by omega
    simp [Sort.putCells, ht, hc]
  · rw [if_neg ht]
    simp [ht]
theorem size_putCells (F cur : Array Value) : (Sort.putCells id 0 F cur).size = cur.size := by simp [Sort.putCells]
variable {w : World} {base g n c : Nat} {e : TypeId} {xs ys : List α}
theorem own_cur (h : OwnV w base e k (some ⟨g, 0, none⟩) n c (xs.flatMap cs)) : ∃ cur, Arr w g e cur ∧ base ≤ g ∧ n ≤ c ∧ c ≤ maxLen ∧ cur.size = c * k ∧ cur.toList.take (n * k) = xs.flatMap cs := by
  rcases h.2 with ⟨hv, hn⟩ | ⟨g', cap, cur, hv, hb, hh, h1, h2, h3, h4⟩
  · cases hv
  · injection hv with hA _ hc
    injection hA with hA
    injection hA with hA
    subst hA hc
    exact ⟨cur, hh, hb, h1, h2, h3, h4⟩
theorem own_holds (hk : ∀ x, (cs x).length = k) (h : OwnV w base e k (some ⟨g, 0, none⟩) n c (xs.flatMap cs)) : Sort.HoldsK cs k w g 0 xs.toArray := by
  obtain ⟨cur, ha, _, _, _, _, ht⟩ := own_cur h
  unfold Sort.HoldsK Sort.Holds
  rw [flat_toArray hk]
  intro j hj
  have hj2 : j < (xs.flatMap cs).length := by simpa using hj
  have hl := h.1
  refine ⟨?_, ha.frozen _⟩
  rw [Nat.zero_add, ha.cell]
  have : (xs.flatMap cs)[j]? = cur[j]? := by
    rw [← ht, List.getElem?_take_of_lt (by omega)]; simp
  rw [← this, List.getElem?_eq_getElem hj2]
  congr 1
  show _ = (xs.flatMap cs).toArray[j]!
  rw [getElem!_pos _ j (by simpa using hj2)]
  simp
theorem sorted_own (hk : ∀ x, (cs x).length = k) (h : OwnV w base e k (some ⟨g, 0, none⟩) n c (xs.flatMap cs)) (hl : ys.length = xs.length) (m : Nat) (os : Array Obj) :
    OwnV (sortWorldK cs k w g 0 m ys.toArray os) base e k (some ⟨g, 0, none⟩) n c (ys.flatMap cs) ∧ w.grownBy (sortWorldK cs k w g 0 m ys.toArray os) (some g) := by
  obtain ⟨cur, ha, hb, hn, hm, hs, ht⟩ := own_cur h
  have hgl := ha.lt
  have hlen : (ys.flatMap cs).length = n * k := by rw [flat_length hk, hl, ← flat_length hk]; exact h.1
  have hnk : n * k ≤ c * k := Nat.mul_le_mul_right k hn
  have hh : (sortWorldK cs k w g 0 m ys.toArray os).heap[g]? = some (.cells (Sort.putCells id 0 (ys.flatMap cs).toArray cur) e (0, 0)) := by
    unfold sortWorldK Sort.putRowK
    rw [flat_toArray hk, Sort.heap_grow_old _ _ (by simpa [Sort.putRow, Sort.mapBlock, Sort.ahead] using hgl)]
    have hc : w.heap[g]? = some (.cells cur e (0, 0)) := ha
    simp only [Sort.putRow, Sort.mapBlock, Sort.ahead, Array.getElem?_modify, if_true, World.drewN, hc, Option.map_some, Sort.onCells]
  refine ⟨⟨hlen, .inr ⟨g, c, _, rfl, hb, hh, hn, hm, by rw [size_putCells]; exact hs, ?_⟩⟩, ⟨rfl, rfl, rfl, ?_, ?_⟩⟩
  · have := putCells_take (ys.flatMap cs).toArray cur (by simp only [List.size_toArray]; omega)
    simp only [List.size_toArray, hlen] at this
    exact this
  · simp [sortWorldK, Sort.putRowK, Sort.putRow, Sort.mapBlock, Sort.ahead]
  · intro q hq hne
    unfold sortWorldK Sort.putRowK
    rw [Sort.heap_grow_old _ _ (by simpa [Sort.putRow, Sort.mapBlock, Sort.ahead] using hq)]
    have hne' : ¬ g = q := fun e => hne (by rw [e])
    simp [Sort.putRow, Sort.mapBlock, Sort.ahead, Array.getElem?_modify, hne']

/-- slices.SortFunc on a row of the call's own -/
theorem sort_own {P : Program} {ρ : Ren} (L : SlLaysF0.n6 P ρ) (k0 : 0 < k) (aE : ∀ w, (isAgg (ρ.t 24)).run P w = .ok true w) (zE : ∀ w, (Go.sizeOf (ρ.t 24)).run P w = .ok k w) (hk : ∀ x, (cs x).length = k) (h1 : ∀ x, ∀ v ∈ cs x, v.oneCell' = true)
    (cf : α → α → Int) (hO : Sort.SWO (ltOf cf)) (f : Nat) (eg : ∀ args w, (callFunc f args).run P w = .ok (.enter f args) w)
    (hcmp : ∀ (W : World) (x y : α), Calls P f #[.agg (cs x).toArray, .agg (cs y).toArray] W fun e w' => e = .returned (.int .i64 (cf x y)) ∧ ExtD W w')
    (A : Option Addr) (n c base : Nat) (e : TypeId) (xs : List α) (w : World) (hown : OwnV w base e k A n c (xs.flatMap cs)) (hn : n < 4611686018427387904) :
    Calls P (ρ.f 6) #[.slice A n c, .func (.func f) #[] #[]] w fun e1 w' => e1 = .returned (.tuple #[]) ∧ ∃ ys : List α, ys.Perm xs ∧ ys.Pairwise (fun x y => ¬ cf y x < 0) ∧ OwnV w' base e k A n c (ys.flatMap cs) ∧ w.grownBy w' (blk A) := by
  have hxn : xs.length = n := by
    have := hown.1
    rw [flat_length hk] at this
    exact Nat.eq_of_mul_eq_mul_right k0 this
  by_cases h0 : n = 0
  · subst h0
    have hx : xs = [] := List.eq_nil_of_length_eq_zero hxn
    subst hx
    refine (AnyF.slices_SortFunc_none L A c _ w).mono ?_
    rintro e1 w' ⟨rfl, rfl⟩
    exact ⟨rfl, [], List.Perm.refl _, List.Pairwise.nil, hown, World.grownBy.refl _ _⟩
  · have hA : ∃ g, A = some ⟨g, 0, none⟩ := by
      rcases hown.2 with ⟨hv, hn⟩ | ⟨g', cap, cur, hv, _⟩
      · exact absurd hn h0
      · injection hv with hA _ hc
        exact ⟨g', hA⟩
    obtain ⟨g, rfl⟩ := hA
    have hH := own_holds hk hown
    have hgl : g < w.heap.size := by obtain ⟨cur, ha, _⟩ := own_cur hown; exact ha.lt
    have hC : CmpLays P f #[] cs k cf g 0 xs.toArray.size w := by
      intro m os dk hs x y
      refine (hcmp _ x y).mono ?_
      rintro e1 w' ⟨rfl, q, os', rfl⟩
      exact ⟨rfl, q, os', rfl⟩
    have hs : xs.toArray.size = n := by simpa using hxn
    have hcon := AnyQ.slices_SortFunc L k aE zE cs hk h1 cf hO f #[] g 0 c xs.toArray w eg hC hH hgl (by rw [hs]; exact hn)
    rw [hs] at hcon
    refine hcon.mono ?_
    rintro e1 w' ⟨rfl, d', m, os, hp, hso, rfl⟩
    obtain ⟨hsz, _, hperm⟩ := hp
    have e1 : d'.extract 0 n = d' := by
      have : n = d'.size := by rw [hsz]; exact hs.symm
      rw [this]; exact Array.extract_size
    have e2 : xs.toArray.extract 0 n = xs.toArray := by
      rw [← hs]; exact Array.extract_size
    rw [e1, e2] at hperm
    have hyl : d'.toList.length = xs.length := by rw [Array.length_toList, hsz]; simp
    have hso' := sorted_own (ys := d'.toList) hk hown hyl m os
    refine ⟨rfl, d'.toList, by simpa using hperm, ?_, by simpa using hso'.1, by have h9 := hso'.2; simpa [blk] using h9⟩
    rw [List.pairwise_iff_getElem]
    intro i j hi hj hij
    have hi' : i < d'.size := by simpa using hi
    have hj' : j < d'.size := by simpa using hj
    have := hso i j (Nat.zero_le _) hij (by omega)
    rw [getElem!_pos d' i hi', getElem!_pos d' j hj'] at this
    unfold ltOf at this
    simpa using this
end so
end Go.Proofs.Ytlgngnkaiidbeaa
