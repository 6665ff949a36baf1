/- Rows of elements of any type (slices of slices, of structs) of the call's own; lists of bytes in memory. -/
import Derived.Test.YtlgngnkaiidbeaaMem
set_option maxRecDepth 100000
set_option linter.unusedVariables false
set_option linter.unusedSimpArgs false
namespace Go.Proofs.Ytlgngnkaiidbeaa
open Go.RowKit

/-- n elements of type e, size cells each, in a row of the call's own, from block 'base' on -/
def OwnV (w : World) (base : Nat) (e : TypeId) (size : Nat) (A : Option Addr) (n c : Nat) (xs : List Value) : Prop := w.ownsRow base e size (.slice A n c) n xs

section ownv
variable {w w1 : World} {base : Nat} {e : TypeId} {size : Nat} {A : Option Addr} {n c : Nat} {xs : List Value}
theorem OwnV.nil (w : World) (base : Nat) (e : TypeId) (size : Nat) : OwnV w base e size none 0 0 [] := World.ownsRow_nil w base _ _
theorem OwnV.len (h : OwnV w base e size A n c xs) : xs.length = n * size := h.1
theorem OwnV.rd (h : OwnV w base e size A n c xs) : Rd w A xs := by
  intro j u hu
  rcases h.2 with ⟨hv, hn⟩ | ⟨g, cap, cur, hv, hb, hh, h1, h2, h3, h4⟩
  · have := h.1
    rw [hn, Nat.zero_mul] at this
    have := List.eq_nil_of_length_eq_zero this
    subst this
    simp at hu
  · injection hv with hA _ _
    subst hA
    refine ⟨_, rfl, ?_⟩
    rw [add_mk, Nat.zero_add]
    rw [← h4, List.getElem?_take] at hu
    split at hu
    · simp only [World.cell?, hh]
      simpa using hu
    · cases hu
theorem OwnV.cap (h : OwnV w base e size A n c xs) : n ≤ c := by
  rcases h.2 with ⟨hv, hn⟩ | ⟨g, cap, cur, hv, _, _, hc, _⟩
  · omega
  · injection hv with _ _ h3; omega
theorem OwnV.capmax (h : OwnV w base e size A n c xs) : c ≤ 9223372036854775807 := by
  rcases h.2 with ⟨hv, hn⟩ | ⟨g, cap, cur, hv, _, _, hc, hm, _⟩
  · injection hv with _ _ h3; omega
  · injection hv with _ _ h3; unfold maxLen at hm; omega
theorem OwnV.keep {row : Option Nat} (h : OwnV w base e size A n c xs) (hg : w.grownBy w1 row) (hr : blk A = none ∨ blk A ≠ row) : OwnV w1 base e size A n c xs := by
  refine ⟨h.1, ?_⟩
  rcases h.2 with h2 | ⟨g, cap, cur, hv, hb, hh, r⟩
  · exact Or.inl h2
  · refine Or.inr ⟨g, cap, cur, hv, hb, ?_, r⟩
    injection hv with hA _ _
    subst hA
    have hlt : g < w.heap.size := (Array.getElem?_eq_some_iff.1 hh).1
    have hne : some g ≠ row := by
      rcases hr with h | h
      · simp [blk] at h
      · simpa [blk] using h
    rw [hg.block g hlt hne]
    exact hh
theorem OwnV.ext (h : OwnV w base e size A n c xs) (he : Ext w w1) : OwnV w1 base e size A n c xs := by
  refine ⟨h.1, ?_⟩
  rcases h.2 with h2 | ⟨g, cap, cur, hv, hb, hh, r⟩
  · exact Or.inl h2
  · exact Or.inr ⟨g, cap, cur, hv, hb, he.block hh, r⟩
theorem OwnV.lower {base' : Nat} (h : OwnV w base e size A n c xs) (hb : base' ≤ base) : OwnV w base' e size A n c xs := by
  refine ⟨h.1, ?_⟩
  rcases h.2 with h2 | ⟨g, cap, cur, hv, hb', r⟩
  · exact Or.inl h2
  · exact Or.inr ⟨g, cap, cur, hv, by omega, r⟩
theorem OwnV.base_ (h : OwnV w base e size A n c xs) : ∀ k, blk A = some k → base ≤ k ∧ k < w.heap.size := by
  intro k hk
  have := World.ownsRow.lt h k (by rw [ownBlock_slice]; exact hk)
  exact this
end ownv

section laws
variable {P : Program} {ops : Array Oper} {rest : List Oper} {o : Oper} {a : Act} {Q : Exit → Act → World → Prop}
theorem run_appV (w : World) (t ty e : TypeId) (z : Value) (size bytes : Nat) (ht : P.underlying t = some (.slice e)) (hinfo : (P.info? e).map (fun i => (i.zero, i.size, i.bytes)) = some (some z, size, bytes)) (hz : z.cells.size = size) (hsz : 0 < size)
    (base : Nat) (A : Option Addr) (n c : Nat) (xs : List Value) (hown : OwnV w base e size A n c xs)
    (ad : Addr) (m d : Nat) (news : List Value) (hl : news.length = m * size) (hnews : ∀ j u, news[j]? = some u → w.cell? (ad.add j) = some u) (h1 : ∀ u ∈ news, u.oneCell' = true)
    (hb : (n + m) * bytes ≤ 140737488355328) (hmx : n + m ≤ 9223372036854775807) (hbase : base ≤ w.heap.size) :
    ∃ A' c' w', (Builtin.append_ #[t, t] ty #[.slice A n c, .slice (some ad) m d]).run P w = .ok (.slice A' (n + m) c') w' ∧
      OwnV w' base e size A' (n + m) c' (xs ++ news) ∧ w.grownBy w' (blk A) ∧ (blk A' = blk A ∨ blk A' = some w.heap.size) := by
  obtain ⟨i0, hi, hz0, hz1, hz2⟩ := info_parts hinfo
  obtain ⟨v', w', hrun, h2, h3, _, h5⟩ := run_append_own_at (P := P) w base t ty e i0 z size bytes ht hi hz0 hz1 hz2 hz hsz _ _ _ hown ad m d news hl hnews h1 (by simp only [maxLen]; omega) hb hbase
  rw [ownBlock_slice] at h3 h5
  have hex : ∃ A' c', v' = .slice A' (n + m) c' := by
    rcases h2.2 with ⟨h, hz⟩ | ⟨g, cap, cur, h, _⟩
    · exact ⟨none, 0, by rw [h, hz]⟩
    · exact ⟨_, _, h⟩
  obtain ⟨A', c', rfl⟩ := hex
  rw [ownBlock_slice] at h5
  exact ⟨A', c', w', hrun, h2, h3, h5⟩
/-- append(s, x...) on a row of the call's own -/
theorem appV (w : World) (hgd : Region.wanted o (yielded ops a.tmps) = true) (s x : Operand) (t : TypeId) (ho : o.op = .call { callee := .builtin .append, args := #[s, x], argTypes := #[t, t] })
    (e : TypeId) (z : Value) (size bytes : Nat) (ht : P.underlying t = some (.slice e)) (hinfo : (P.info? e).map (fun i => (i.zero, i.size, i.bytes)) = some (some z, size, bytes)) (hz : z.cells.size = size) (hsz : 0 < size)
    (base : Nat) (A : Option Addr) (n c : Nat) (xs : List Value) (hs : a.eval s = .slice A n c) (ad : Addr) (m d : Nat) (news : List Value) (hx : a.eval x = .slice (some ad) m d)
    (h : ∀ A' c' w', OwnV w' base e size A' (n + m) c' (xs ++ news) → w.grownBy w' (blk A) → (blk A' = blk A ∨ blk A' = some w.heap.size) → wpList P ops Q rest (a.put o.dst (.slice A' (n + m) c')) w')
    (hown : OwnV w base e size A n c xs) (hl : news.length = m * size) (hnews : ∀ j u, news[j]? = some u → w.cell? (ad.add j) = some u) (h1 : ∀ u ∈ news, u.oneCell' = true)
    (hb : (n + m) * bytes ≤ 140737488355328) (hmx : n + m ≤ 9223372036854775807) (hbase : base ≤ w.heap.size) :
    wpList P ops Q (o :: rest) a w := by
  refine wpList_want hgd fun K hK => ?_
  obtain ⟨A', c', w', hrun, h2, h3, h4⟩ := run_appV (P := P) w t o.type e z size bytes ht hinfo hz hsz base A n c xs hown ad m d news hl hnews h1 hb hmx hbase
  unfold Oper.wp execOp
  simp only [ho, resolve, invoke, builtin, Sem.run_bind, Sem.run_pure, Result.andThen_ok, List.map_toArray, List.map_cons, List.map_nil, hs, hx, hrun]
  exact hK _ _ (h A' c' w' h2 h3 h4)
end laws

/-- a value that reads as bytes -/
def ElB (w : World) (v : Value) (bs : List UInt8) : Prop := ∃ B c, v = .slice B bs.length c ∧ RdB w B bs ∧ bs.length ≤ c ∧ c ≤ 9223372036854775807
/-- values that read as lists of bytes -/
def EL (w : World) (vs : List Value) (bss : List (List UInt8)) : Prop := vs.length = bss.length ∧ ∀ (i : Nat) (v : Value) (bs : List UInt8), vs[i]? = some v → bss[i]? = some bs → ElB w v bs
section el
variable {w w1 : World} {v : Value} {bs : List UInt8} {vs : List Value} {bss : List (List UInt8)}
theorem ElB.ext (h : ElB w v bs) (he : Ext w w1) : ElB w1 v bs := let ⟨B, c, h1, h2, h3⟩ := h; ⟨B, c, h1, h2.ext he, h3⟩
theorem ElB.kept (h : ElB w v bs) (he : ∀ p u, w.cell? p = some u → w1.cell? p = some u) : ElB w1 v bs :=
  let ⟨B, c, h1, h2, h3⟩ := h; ⟨B, c, h1, (fun j u hu => let ⟨ad, ha, hc⟩ := h2 j u hu; ⟨ad, ha, he _ _ hc⟩), h3⟩
theorem EL.nil : EL w [] [] := ⟨rfl, fun i v bs h => by simp at h⟩
theorem EL.ext (h : EL w vs bss) (he : Ext w w1) : EL w1 vs bss := ⟨h.1, fun i v bs h1 h2 => (h.2 i v bs h1 h2).ext he⟩
theorem EL.kept (h : EL w vs bss) (he : ∀ p u, w.cell? p = some u → w1.cell? p = some u) : EL w1 vs bss := ⟨h.1, fun i v bs h1 h2 => (h.2 i v bs h1 h2).kept he⟩
theorem EL.snoc (h : EL w vs bss) (hv : ElB w v bs) : EL w (vs ++ [v]) (bss ++ [bs]) := by
  refine ⟨by simp [h.1], fun i u us h1 h2 => ?_⟩
  rcases Nat.lt_trichotomy i vs.length with hi | hi | hi
  · rw [List.getElem?_append_left hi] at h1
    rw [List.getElem?_append_left (by have := h.1; omega)] at h2
    exact h.2 i u us h1 h2
  · rw [List.getElem?_append_right (by omega), hi, Nat.sub_self] at h1
    rw [List.getElem?_append_right (by have := h.1; omega), hi, h.1, Nat.sub_self] at h2
    simp at h1 h2
    subst h1 h2
    exact hv
  · rw [List.getElem?_eq_none (by simp; omega)] at h1
    cases h1
end el
end Go.Proofs.Ytlgngnkaiidbeaa
