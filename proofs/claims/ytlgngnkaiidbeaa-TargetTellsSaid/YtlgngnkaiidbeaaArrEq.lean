/- '==' between two arrays of integers. -/
import Derived.Test.YtlgngnkaiidbeaaMem
import Derived.ChangeKeysEq
import Derived.Laws.StructEq
set_option linter.unusedVariables false
set_option linter.unusedSimpArgs false
namespace Go.Proofs.Ytlgngnkaiidbeaa
open Go.RowKit

theorem run_arrEq {P : Program} (w : World) (d : Nat) (t e : TypeId) (k : IntKind) (i : TypeInfo) (xs ys : List Int) (ht : P.underlying t = some (.array xs.length e)) (he : P.underlying e = some (.int k))
    (hi : P.info? e = some i) (hc : P.cellsOf e = 1) (hk : P.plainKey e = true) (hl : ys.length = xs.length) :
    (Op.equalIn (d + 2) t (.agg (xs.map (Value.int k)).toArray) (.agg (ys.map (Value.int k)).toArray)).run P w = .ok (decide (xs = ys)) w := by
  rw [Op.equalIn]
  simp only [Sem.run_bind, run_underlying ht, Result.andThen_ok, run_sizeOf w hi, hc, Nat.mul_one, Std.Legacy.Range.forIn_eq_forIn_range', Std.Legacy.Range.size, Nat.sub_zero, Nat.add_one_sub_one, Nat.div_one]
  have key : ∀ (n s : Nat), s + n = xs.length → xs.take s = ys.take s →
      ((forIn (List.range' s n 1) (none, PUnit.unit) fun i r => do
        let a ← part e (xs.map (Value.int k)).toArray i
        let b ← part e (ys.map (Value.int k)).toArray i
        let r ← Op.equalIn (d + 1) e a b
        if (!r) = true then pure (ForInStep.done (some false, PUnit.unit)) else pure (ForInStep.yield (none, PUnit.unit)) : Sem (Option Bool × PUnit))).run P w = .ok (if xs = ys then (none, PUnit.unit) else (some false, PUnit.unit)) w := by
    intro n
    induction n with
    | zero =>
      intro s hs ht
      rw [List.take_of_length_le (by omega), List.take_of_length_le (by omega)] at ht
      simp [ht]
    | succ n ih =>
      intro s hs ht
      have hsx : s < xs.length := by omega
      have hsy : s < ys.length := by omega
      have p1 : (part e (xs.map (Value.int k)).toArray s).run P w = .ok (.int k xs[s]) w := run_part_plain w hk (by simp [hsx])
      have p2 : (part e (ys.map (Value.int k)).toArray s).run P w = .ok (.int k ys[s]) w := run_part_plain w hk (by simp [hsy])
      rw [List.range'_succ, List.forIn_cons]
      simp only [Sem.run_bind, p1, p2, Result.andThen_ok, run_equalIn_int w d e k k _ _ he]
      by_cases hxy : xs[s] = ys[s]
      · simp only [hxy, beq_self_eq_true, Bool.not_true, Bool.false_eq_true, if_false, Sem.run_pure, Result.andThen_ok]
        exact ih (s + 1) (by omega) (by rw [List.take_succ_eq_append_getElem hsx, List.take_succ_eq_append_getElem hsy, ht, hxy])
      · have hb : (xs[s] == ys[s]) = false := by simpa using hxy
        have hne : xs ≠ ys := fun h => hxy (by simp [h])
        simp only [hb, Bool.not_false, if_true, Sem.run_pure, Result.andThen_ok, if_neg hne]
  have h0 := key xs.length 0 (by omega) rfl
  rw [h0]
  by_cases hxy : xs = ys
  · simp [hxy]
  · simp [hxy]
end Go.Proofs.Ytlgngnkaiidbeaa
