/- law30's awake. -/
import Derived.Test.YtlgngnkaiidbeaaShareF
import Derived.Test.YtlgngnkaiidbeaaSpreadB
set_option maxRecDepth 100000
set_option exponentiation.threshold 3000
set_option linter.unusedVariables false
set_option linter.unusedSimpArgs false
namespace Go.Proofs.Ytlgngnkaiidbeaa
open Go.RowKit Go.Shelf

theorem cho_example : choT [⟨2, 0, 0⟩, ⟨1, 0, 0⟩] 4602678819172646912 = (⟨2, 0, 0⟩, true) := by decide +kernel
set_option maxHeartbeats 2000000 in
theorem awake30 (w : World) : Calls Try.prog 58 #[] w (RetV w (.bool true)) := by
  have HC : Hid (∀ W g, Arr W g 93 #[.int .i64 2, .int .i64 0, .int .i64 0, .int .i64 1, .int .i64 0, .int .i64 0] → Calls Try.prog 59 #[.slice (some ⟨g, 0, none⟩) 2 2, .int .u64 4602678819172646912] W fun e w' => e = .returned (.tuple #[.agg (tnV ⟨2, 0, 0⟩), .bool true]) ∧ Ext W w') := fun W g h => by
    have hr : RdE Tn.cs W (some ⟨g, 0, none⟩) [⟨2, 0, 0⟩, ⟨1, 0, 0⟩] := h.rd
    have h2 := schoose_calls (some ⟨g, 0, none⟩) 2 [⟨2, 0, 0⟩, ⟨1, 0, 0⟩] 4602678819172646912 W hr (by decide) (fun h => by cases h) (by decide)
    rw [cho_example] at h2
    exact h2
  have HS : Hid (∀ W, Calls Try.prog 64 #[.int .i64 3, .slice none 0 0] W fun e w' => ∃ g, e = .returned (.slice (some ⟨g, 0, none⟩) 3 3) ∧ Ext W w') := fun W => (spread_calls [] 3 0 none W (by omega) (by omega) (by simp) (by simp) (fun x hx => by simp at hx) Rd.nil).mono fun e w' ⟨g, h1, _, h3, _⟩ => ⟨g, h1, h3⟩
  go_enter Try.func58, Try.ntmps58
  go_wp2_with fail
  have HA : Hid (Arr (w.alloc (.cells #[.int .i64 2, .int .i64 0, .int .i64 0, .int .i64 1, .int .i64 0, .int .i64 0] 93)) w.heap.size 93 #[.int .i64 2, .int .i64 0, .int .i64 0, .int .i64 1, .int .i64 0, .int .i64 0]) := Arr.new _ _ _
  refine (HC.out _ _ HA.out).mono ?_
  rintro e w1 ⟨rfl, e1⟩
  have E1 := Lib.hid (((Ext.refl w).alloc _).trans e1)
  clear e1 HA HC
  go_wp2_with (first
    | ((with_reducible show wpList _ _ _ ({ dst := some 1, op := Op.alloc 93, type := _, pos := _, after := _, guard := _ } :: _) _ _); refine alA _ rfl 93 rfl _ _ zero_turn ?_; intro g5 w5 hg hs1 k3 e3; have X5 := Lib.hid k3; have T5 := Lib.hid (E1.out.trans e3); have G5 := Lib.hid (Nat.le_trans E1.out.size (Nat.le_of_eq hg)); clear hg hs1 k3 e3)
    | ((with_reducible show wpList _ _ _ ({ dst := none, op := Op.store 93 _ _, type := _, pos := _, after := _, guard := _ } :: _) _ _); refine stA _ rfl 93 93 _ _ rfl g5 _ (tnV ⟨2, 0, 0⟩) rfl rfl X5.out size_turn rfl (tnV_one _) ?_; intro w6 hs k4 g4; have T6 := Lib.hid (show Ext w w6 from T5.out.grown g4 (fun k hk => by injection hk with hk; have := G5.out; omega)); have y0 : w6.cell? ⟨g5, 0, none⟩ = some (.int .i64 2) := k4.cell 0; clear hs k4 g4)
    | (go_at_call 64; refine (HS.out _).mono ?_; rintro e w7 ⟨g, rfl, e7⟩; have E7 := Lib.hid (T6.out.trans e7); clear e7 y0))
  go_ret
  exact ⟨rfl, E7.out⟩
end Go.Proofs.Ytlgngnkaiidbeaa
