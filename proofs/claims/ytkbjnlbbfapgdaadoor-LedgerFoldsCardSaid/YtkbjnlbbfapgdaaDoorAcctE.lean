/- slices.Equal of leases and statements: equality of structs. -/
import Derived.Test.YtkbjnlbbfapgdaaDoorAcctC
import Derived.Laws.StructEq
set_option maxRecDepth 100000
set_option linter.unusedVariables false
set_option linter.unusedSimpArgs false
namespace Go.Proofs.YtkbjnlbbfapgdaaDoor
open Go.RowKit

theorem part_u64 (xs : Array Value) (i : Nat) (w : World) : (part 22 xs i).run Tryd.prog w = match xs[i]? with | some v => .ok v w | none => (stuck "part: no such cell" : Sem Value).run Tryd.prog w := by
  have h : ∀ w, (isAgg 22).run Tryd.prog w = .ok false w := fun w => by kernel_rfl
  simp only [part, Sem.run_bind, h, Result.andThen_ok, Bool.false_eq_true, if_false]
  cases xs[i]? <;> rfl
theorem part_str (xs : Array Value) (i : Nat) (w : World) : (part 9 xs i).run Tryd.prog w = match xs[i]? with | some v => .ok v w | none => (stuck "part: no such cell" : Sem Value).run Tryd.prog w := by
  have h : ∀ w, (isAgg 9).run Tryd.prog w = .ok false w := fun w => by kernel_rfl
  simp only [part, Sem.run_bind, h, Result.andThen_ok, Bool.false_eq_true, if_false]
  cases xs[i]? <;> rfl
theorem eqLz (x y : Lz) (w : World) : (Op.equalIn 10000 64 (.agg #[.int .u64 x.id, .int .u64 x.sz]) (.agg #[.int .u64 y.id, .int .u64 y.sz])).run Tryd.prog w = .ok (decide (x = y)) w := by
  have hp : Tryd.prog.stoodInHeld 64 = false := by kernel_rfl
  have hu : Tryd.prog.underlying 64 = some (.struct (Tryd.prog.fieldsOf 64)) := by kernel_rfl
  rw [run_equalIn_struct w 9999 _ _ _ hu hp]
  have hf : Tryd.prog.fieldsOf 64 = #[{ name := "Id", type := 22, offset := 0, embedded := false, tag := "", pkgPath := "", byteOffset := 0 }, { name := "Size", type := 22, offset := 1, embedded := false, tag := "", pkgPath := "", byteOffset := 8 }] := by kernel_rfl
  rw [hf]
  simp [Op.eqFields, part_u64, run_equalIn_int (P := Tryd.prog) w _ 22 .u64 .u64 _ _ Tryd.underlying22, Lz.eq_iff]
  by_cases h1 : x.id = y.id <;> by_cases h2 : x.sz = y.sz <;> simp [h1, h2, Int.ofNat_inj]
theorem str_beq (a b : ByteArray) : (a.toList == b.toList) = decide (a = b) := by
  rw [ByteArray.toList_eq, ByteArray.toList_eq, Bool.eq_iff_iff]
  simp
  constructor
  · intro h; cases a; cases b; simp at h; rw [h]
  · intro h; rw [h]
theorem eqSt (x y : St) (w : World) : (Op.equalIn 10000 70 (.agg #[.string x.ten, .int .u64 x.per, .int .u64 x.used, .int .u64 x.cap, .int .u64 x.bits, .int .u64 x.due]) (.agg #[.string y.ten, .int .u64 y.per, .int .u64 y.used, .int .u64 y.cap, .int .u64 y.bits, .int .u64 y.due])).run Tryd.prog w = .ok (decide (x = y)) w := by
  have hp : Tryd.prog.stoodInHeld 70 = false := by kernel_rfl
  have hu : Tryd.prog.underlying 70 = some (.struct (Tryd.prog.fieldsOf 70)) := by kernel_rfl
  rw [run_equalIn_struct w 9999 _ _ _ hu hp]
  have hf : Tryd.prog.fieldsOf 70 = #[{ name := "Tenant", type := 9, offset := 0, embedded := false, tag := "", pkgPath := "", byteOffset := 0 }, { name := "Period", type := 22, offset := 1, embedded := false, tag := "", pkgPath := "", byteOffset := 16 }, { name := "Used", type := 22, offset := 2, embedded := false, tag := "", pkgPath := "", byteOffset := 24 }, { name := "Cap", type := 22, offset := 3, embedded := false, tag := "", pkgPath := "", byteOffset := 32 }, { name := "Bits", type := 22, offset := 4, embedded := false, tag := "", pkgPath := "", byteOffset := 40 }, { name := "Due", type := 22, offset := 5, embedded := false, tag := "", pkgPath := "", byteOffset := 48 }] := by kernel_rfl
  rw [hf]
  simp [Op.eqFields, part_u64, part_str, run_equalIn_int (P := Tryd.prog) w _ 22 .u64 .u64 _ _ Tryd.underlying22, run_equalIn_string (P := Tryd.prog) w _ 9 _ _ Tryd.underlying9, St.eq_iff, str_beq]
  by_cases h1 : x.ten = y.ten <;> by_cases h2 : x.per = y.per <;> by_cases h3 : x.used = y.used <;> by_cases h4 : x.cap = y.cap <;> by_cases h5 : x.bits = y.bits <;> by_cases h6 : x.due = y.due <;> simp [h1, h2, h3, h4, h5, h6, Int.ofNat_inj]
theorem neLz (x y : Lz) (w : World) : (binOp .neq 64 (.agg #[.int .u64 x.id, .int .u64 x.sz]) (.agg #[.int .u64 y.id, .int .u64 y.sz])).run Tryd.prog w = .ok (.bool (!decide (x = y))) w := by
  rw [run_neq_struct, eqLz]; rfl
theorem neSt (x y : St) (w : World) : (binOp .neq 70 (.agg #[.string x.ten, .int .u64 x.per, .int .u64 x.used, .int .u64 x.cap, .int .u64 x.bits, .int .u64 x.due]) (.agg #[.string y.ten, .int .u64 y.per, .int .u64 y.used, .int .u64 y.cap, .int .u64 y.bits, .int .u64 y.due])).run Tryd.prog w = .ok (.bool (!decide (x = y))) w := by
  rw [run_neq_struct, eqSt]; rfl
end Go.Proofs.YtkbjnlbbfapgdaaDoor
