/- append(s, x...) of elements of any size, x wherever it lies (nil, too). -/
import Derived.Test.YtlgngnkaiidbeaaMemV
import Derived.Test.YtlgngnkaiidbeaaArr
set_option maxRecDepth 100000
set_option linter.unusedVariables false
set_option linter.unusedSimpArgs false
namespace Go.Proofs.Ytlgngnkaiidbeaa
open Go.RowKit

section laws
variable {P : Program} {ops : Array Oper} {rest : List Oper} {o : Oper} {a : Act} {Q : Exit → Act → World → Prop}
theorem run_app_nilV (w : World) (base : Nat) (t ty e : TypeId) (i : TypeInfo) (size : Nat) (ht : P.underlying t = some (.slice e)) (hi : P.info? e = some i)
    (v : Value) (n : Nat) (xs : List Value) (hown : w.ownsRow base e size v n xs) (c : Nat) : (Builtin.append_ #[t, t] ty #[v, .slice none 0 c]).run P w = .ok v w := by
  rcases hown.2 with ⟨rfl, rfl⟩ | ⟨g, cap, cur, rfl, _, _, hnc, _⟩
  · simp [Builtin.append_, run_underlying ht, sizeOf, typeInfo, hi, Builtin.lenOf, Builtin.firstCells]
  · simp [Builtin.append_, run_underlying ht, sizeOf, typeInfo, hi, Builtin.lenOf, Builtin.firstCells, hnc, storeCells]
/-- append(s, x...), s a row of the call's own, x anywhere -/
theorem appW (w : World) (hgd : Region.wanted o (yielded ops a.tmps) = true) (s x : Operand) (t : TypeId) (ho : o.op = .call { callee := .builtin .append, args := #[s, x], argTypes := #[t, t] })
    (e : TypeId) (z : Value) (size bytes : Nat) (ht : P.underlying t = some (.slice e)) (hinfo : (P.info? e).map (fun i => (i.zero, i.size, i.bytes)) = some (some z, size, bytes)) (hz : z.cells.size = size) (hsz : 0 < size)
    (base : Nat) (A : Option Addr) (n c : Nat) (xs : List Value) (hs : a.eval s = .slice A n c) (B : Option Addr) (m d : Nat) (news : List Value) (hx : a.eval x = .slice B m d)
    (h : ∀ A' c' w', OwnV w' base e size A' (n + m) c' (xs ++ news) → w.grownBy w' (blk A) → (blk A' = blk A ∨ blk A' = some w.heap.size) → wpList P ops Q rest (a.put o.dst (.slice A' (n + m) c')) w')
    (hown : OwnV w base e size A n c xs) (hl : news.length = m * size) (hnews : Rd w B news) (h1 : ∀ u ∈ news, u.oneCell' = true)
    (hb : (n + m) * bytes ≤ 140737488355328) (hmx : n + m ≤ 9223372036854775807) (hbase : base ≤ w.heap.size) :
    wpList P ops Q (o :: rest) a w := by
  cases B with
  | none =>
    have hn : news = [] := by
      cases news with
      | nil => rfl
      | cons y l => obtain ⟨ad, h, _⟩ := hnews 0 y (by simp); cases h
    subst hn
    have hm : m = 0 := by
      rcases Nat.eq_zero_or_pos m with h | h
      · exact h
      · have := Nat.mul_pos h hsz
        rw [← hl] at this
        simp at this
    subst hm
    obtain ⟨i, hi, _⟩ := info_parts hinfo
    refine wpList_want hgd fun K hK => ?_
    have hrun := run_app_nilV (P := P) w base t o.type e i size ht hi _ _ _ hown d
    unfold Oper.wp execOp
    simp only [ho, resolve, invoke, builtin, Sem.run_bind, Sem.run_pure, Result.andThen_ok, List.map_toArray, List.map_cons, List.map_nil, hs, hx, hrun]
    exact hK _ _ (h A c w (by simpa using hown) (World.grownBy.refl w _) (.inl rfl))
  | some ad =>
    refine appV w hgd s x t ho e z size bytes ht hinfo hz hsz base A n c xs hs ad m d news hx h hown hl ?_ h1 hb hmx hbase
    intro j u hu
    obtain ⟨ad', ha, hc⟩ := hnews j u hu
    cases ha
    exact hc
/-- the same, the sum of the lengths under a name -/
theorem appN (w : World) (hgd : Region.wanted o (yielded ops a.tmps) = true) (s x : Operand) (t : TypeId) (ho : o.op = .call { callee := .builtin .append, args := #[s, x], argTypes := #[t, t] })
    (e : TypeId) (z : Value) (size bytes : Nat) (ht : P.underlying t = some (.slice e)) (hinfo : (P.info? e).map (fun i => (i.zero, i.size, i.bytes)) = some (some z, size, bytes)) (hz : z.cells.size = size) (hsz : 0 < size)
    (base : Nat) (A : Option Addr) (n c : Nat) (xs : List Value) (hs : a.eval s = .slice A n c) (B : Option Addr) (m d : Nat) (news : List Value) (hx : a.eval x = .slice B m d) (N : Nat) (ys : List Value)
    (h : ∀ A' c' w', OwnV w' base e size A' N c' ys → w.grownBy w' (blk A) → (blk A' = blk A ∨ blk A' = some w.heap.size) → wpList P ops Q rest (a.put o.dst (.slice A' N c')) w')
    (hN : n + m = N) (hY : xs ++ news = ys) (hown : OwnV w base e size A n c xs) (hl : news.length = m * size) (hnews : Rd w B news) (h1 : ∀ u ∈ news, u.oneCell' = true)
    (hb : N * bytes ≤ 140737488355328) (hmx : N ≤ 9223372036854775807) (hbase : base ≤ w.heap.size) :
    wpList P ops Q (o :: rest) a w := by
  subst hN hY
  exact appW w hgd s x t ho e z size bytes ht hinfo hz hsz base A n c xs hs B m d news hx h hown hl hnews h1 hb hmx hbase
end laws
end Go.Proofs.Ytlgngnkaiidbeaa
