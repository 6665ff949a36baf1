/- rec.Check and ref11.Check, any kind. -/
import Derived.Test.YtkbjnlbbfapgdaaDoorRecK
import Derived.Test.YtkbjnlbbfapgdaaDoorRecR
set_option maxRecDepth 100000
set_option linter.unusedVariables false
set_option linter.unusedSimpArgs false
namespace Go.Proofs.YtkbjnlbbfapgdaaDoor
open Go.RowKit

theorem check_calls (seq : Nat) (k : Int) (ten : ByteArray) (lease n bits : Nat) (w : World) (hb : bits < 18446744073709551616) :
    Calls Tryd.prog 87 #[recA seq k ten lease n bits] w (RetV w (.int .i64 (recE seq k ten lease n bits))) := by
  by_cases hr : 1 ≤ k ∧ k ≤ 5
  · rcases kind_cases k with rfl | rfl | rfl | rfl | rfl | h | h
    · exact check_1 seq ten lease n bits w hb
    · exact check_2 seq ten lease n bits w hb
    · exact check_3 seq ten lease n bits w hb
    · exact check_4 seq ten lease n bits w hb
    · exact check_5 seq ten lease n bits w hb
    · omega
    · omega
  · have hk : knownB k = false := by simp only [knownB, Bool.and_eq_false_iff, decide_eq_false_iff_not]; omega
    have HE : Hid (recE seq k ten lease n bits = 5) := if_pos hk
    clear hr
    unfold recA
    go_enter Tryd.func87, Tryd.ntmps87
    go_wp2_with fail
    refine (has_calls k _).mono ?_
    rintro e w' ⟨rfl, rfl⟩
    go_wp2_with fail
    refine (known_calls k _).mono ?_
    rintro e w' ⟨rfl, rfl⟩
    rw [hk]
    go_wp2_with fail
    go_ret
    rw [HE.out]
    exact ⟨rfl, (Ext.refl w).alloc _⟩

theorem rcheck_calls (seq : Nat) (k : Int) (ten : ByteArray) (lease n bits : Nat) (w : World) (hb : bits < 18446744073709551616) (hz : ten.size ≤ 1000000) :
    Calls Tryd.prog 84 #[recA seq k ten lease n bits] w (RetV w (.int .i64 (recE seq k ten lease n bits))) := by
  by_cases hr : 1 ≤ k ∧ k ≤ 5
  · rcases kind_cases k with rfl | rfl | rfl | rfl | rfl | h | h
    · exact rcheck_1 seq ten lease n bits w hb hz
    · exact rcheck_2 seq ten lease n bits w hb hz
    · exact rcheck_3 seq ten lease n bits w hb hz
    · exact rcheck_4 seq ten lease n bits w hb hz
    · exact rcheck_5 seq ten lease n bits w hb hz
    · omega
    · omega
  · have hk : knownB k = false := by simp only [knownB, Bool.and_eq_false_iff, decide_eq_false_iff_not]; omega
    have HE : Hid (recE seq k ten lease n bits = 5) := if_pos hk
    unfold recA
    by_cases h1 : k < 1
    · clear hr
      go_enter Tryd.func84, Tryd.ntmps84
      go_wp2_with fail
      go_ret
      rw [HE.out]
      exact ⟨rfl, (Ext.refl w).alloc _⟩
    · have e1 : decide (k < 1) = false := decide_eq_false h1
      have e2 : decide (5 < k) = true := decide_eq_true (by omega)
      clear hr h1
      go_enter Tryd.func84, Tryd.ntmps84
      go_wp2_with fail
      go_ret
      rw [HE.out]
      exact ⟨rfl, (Ext.refl w).alloc _⟩
end Go.Proofs.YtkbjnlbbfapgdaaDoor
