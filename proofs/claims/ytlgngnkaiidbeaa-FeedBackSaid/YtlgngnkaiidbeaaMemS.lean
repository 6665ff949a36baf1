/- append of a string's bytes onto a row of the call's own. -/
import Derived.Test.YtlgngnkaiidbeaaMem
import Derived.Lib.AppendStr
set_option maxRecDepth 100000
set_option linter.unusedVariables false
set_option linter.unusedSimpArgs false
namespace Go.Proofs.Ytlgngnkaiidbeaa
open Go.RowKit
variable {ops : Array Oper} {rest : List Oper} {o : Oper} {a : Act} {Q : Exit → Act → World → Prop}

theorem run_appS (w : World) (ty : TypeId) (base : Nat) (A : Option Addr) (c : Nat) (xs : List UInt8) (hown : OwnB w base A c xs)
    (t : ByteArray) (hl : xs.length + t.size ≤ 140737488355328) (hbase : base ≤ w.heap.size) :
    ∃ A' c' w', (Builtin.append_ #[27, 9] ty #[.slice A xs.length c, .string t]).run Try.prog w = .ok (.slice A' (xs ++ t.data.toList).length c') w' ∧
      OwnB w' base A' c' (xs ++ t.data.toList) ∧ w.grownBy w' (blk A) := by
  obtain ⟨i0, hi, hz0, hz1, hz2⟩ := info_parts byte_info
  obtain ⟨v', w', hrun, h2, h3, _⟩ := Lib.run_append_own_string (P := Try.prog) (w := w) base 27 9 ty 5 i0 Try.underlying27 Try.underlying9 hi hz0 hz1 hz2 _ _ _ hown t (by simp only [maxLen]; omega) hl hbase
  rw [ownBlock_slice] at h3
  have hex : ∃ A' c', v' = .slice A' (xs.length + t.size) c' := by
    rcases h2.2 with ⟨h, hz⟩ | ⟨g, cap, cur, h, _⟩
    · exact ⟨none, 0, by rw [h, hz]⟩
    · exact ⟨_, _, h⟩
  obtain ⟨A', c', rfl⟩ := hex
  have hlen : (xs ++ t.data.toList).length = xs.length + t.size := by rw [List.length_append]; rfl
  refine ⟨A', c', w', by rw [hrun, hlen], ?_, h3⟩
  unfold OwnB
  rw [hlen, List.map_append]
  exact h2

theorem appS (w : World) (hgd : Region.wanted o (yielded ops a.tmps) = true) (s x : Operand) (ho : o.op = .call { callee := .builtin .append, args := #[s, x], argTypes := #[27, 9] })
    (base : Nat) (A : Option Addr) (c : Nat) (xs : List UInt8) (hs : a.eval s = .slice A xs.length c)
    (t : ByteArray) (hx : a.eval x = .string t)
    (h : ∀ A' c' w', OwnB w' base A' c' (xs ++ t.data.toList) → w.grownBy w' (blk A) → wpList Try.prog ops Q rest (a.put o.dst (.slice A' (xs ++ t.data.toList).length c')) w')
    (hown : OwnB w base A c xs) (hl : xs.length + t.size ≤ 140737488355328) (hbase : base ≤ w.heap.size) :
    wpList Try.prog ops Q (o :: rest) a w := by
  refine wpList_want hgd fun K hK => ?_
  obtain ⟨A', c', w', hrun, h2, h3⟩ := run_appS w o.type base A c xs hown t hl hbase
  unfold Oper.wp execOp
  simp only [ho, resolve, invoke, builtin, Sem.run_bind, Sem.run_pure, Result.andThen_ok, List.map_toArray, List.map_cons, List.map_nil, hs, hx, hrun]
  exact hK _ _ (h A' c' w' h2 h3)
end Go.Proofs.Ytlgngnkaiidbeaa
