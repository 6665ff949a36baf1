/- share.Sort$1: how two turns are ordered. -/
import Derived.Test.YtlgngnkaiidbeaaShareA
import Derived.Test.YtlgngnkaiidbeaaArr
import Derived.Sort.Grow
import Derived.Deep.RegionHeld3
set_option maxRecDepth 100000
set_option linter.unusedVariables false
set_option linter.unusedSimpArgs false
namespace Go.Proofs.Ytlgngnkaiidbeaa
open Go.RowKit

/-- a world with draws and blocks behind -/
def ExtD (w w' : World) : Prop := ∃ q os, w' = Sort.grow (w.drewN q) os
theorem ExtD.refl (w : World) : ExtD w w := ⟨0, #[], by rw [Sort.grow_empty]; rfl⟩
theorem ExtD.alloc {w w1 : World} (h : ExtD w w1) (o : Obj) : ExtD w (w1.alloc o) := by
  obtain ⟨q, os, rfl⟩ := h
  exact ⟨q, os ++ #[o], by rw [Sort.alloc_eq_grow, Sort.grow_grow]⟩
theorem ExtD.drew {w w1 : World} (h : ExtD w w1) : ExtD w w1.drew := by
  obtain ⟨q, os, rfl⟩ := h
  exact ⟨q + 1, os, rfl⟩
theorem ExtD.ext {w w1 : World} (h : ExtD w w1) : Ext w w1 := by
  obtain ⟨q, os, rfl⟩ := h
  refine ⟨rfl, rfl, rfl, by simp [Sort.grow, World.drewN], ?_⟩
  intro k hk
  simp [Sort.grow, World.drewN, Array.getElem?_append, hk]
/-- the order of turns: their three cells in order -/
def cmpT (a0 a1 a2 b0 b1 b2 : Int) : Int := orL [Lib.compareInt a0 b0, Lib.compareInt a1 b1, Lib.compareInt a2 b2]
def nv3 (a b c : Int) : Array Value := #[nv a, nv b, nv c]
set_option maxHeartbeats 2000000 in
theorem sortc_calls (a0 a1 a2 b0 b1 b2 : Int) (w : World) : Calls Try.prog 94 #[.agg (nv3 a0 a1 a2), .agg (nv3 b0 b1 b2)] w fun e w' => e = .returned (.int .i64 (cmpT a0 a1 a2 b0 b1 b2)) ∧ ExtD w w' := by
  go_enter Try.func94, Try.ntmps94
  go_wp2_with fail
  have A1 : Arr ((w.alloc (.cells (nv3 a0 a1 a2) 93)).alloc (.cells (nv3 b0 b1 b2) 93)) w.heap.size 93 (nv3 a0 a1 a2) := (Arr.new w _ _).ext ((Ext.refl _).alloc _)
  have A2 : Arr ((w.alloc (.cells (nv3 a0 a1 a2) 93)).alloc (.cells (nv3 b0 b1 b2) 93)) (w.heap.size + 1) 93 (nv3 b0 b1 b2) := by
    have := Arr.new (w.alloc (.cells (nv3 a0 a1 a2) 93)) 93 (nv3 b0 b1 b2)
    rw [World.size_alloc] at this
    exact this
  have E1 : ExtD w ((w.alloc (.cells (nv3 a0 a1 a2) 93)).alloc (.cells (nv3 b0 b1 b2) 93)) := ((ExtD.refl w).alloc _).alloc _
  generalize (w.alloc (.cells (nv3 a0 a1 a2) 93)).alloc (.cells (nv3 b0 b1 b2) 93) = w1 at *
  generalize w.heap.size + 1 = g2 at *
  generalize w.heap.size = g1 at *
  have KS : Hid (∀ w', ExtD w w' → Ext w1 w' → ExtD w w' ∧ Ext w1 w' ∧ w'.cell? ⟨g1, 0, none⟩ = some (.int .i64 a0) ∧ w'.cell? ⟨g1, 1, none⟩ = some (.int .i64 a1) ∧ w'.cell? ⟨g1, 2, none⟩ = some (.int .i64 a2) ∧ w'.cell? ⟨g2, 0, none⟩ = some (.int .i64 b0) ∧ w'.cell? ⟨g2, 1, none⟩ = some (.int .i64 b1) ∧ w'.cell? ⟨g2, 2, none⟩ = some (.int .i64 b2)) :=
    fun w' e e2 => ⟨e, e2, (A1.ext e2).cell_some rfl, (A1.ext e2).cell_some rfl, (A1.ext e2).cell_some rfl, (A2.ext e2).cell_some rfl, (A2.ext e2).cell_some rfl, (A2.ext e2).cell_some rfl⟩
  have E1 := Lib.hid E1
  have HO : Hid (∀ W g, Arr W g 3 #[.int .i64 (Lib.compareInt a0 b0), .int .i64 (Lib.compareInt a1 b1), .int .i64 (Lib.compareInt a2 b2)] → Calls Try.prog 95 #[.slice (some ⟨g, 0, none⟩) 3 3] W fun e w' => e = .returned (.int .i64 (cmpT a0 a1 a2 b0 b1 b2)) ∧ W = w') :=
    fun W g h => orI_calls [Lib.compareInt a0 b0, Lib.compareInt a1 b1, Lib.compareInt a2 b2] (some ⟨g, 0, none⟩) 3 W (by simp) (by simp) h.rd
  clear A1 A2
  unfold nv3
  go_region_held3 (fun w' => ExtD w w' ∧ Ext w1 w' ∧ w'.cell? ⟨g1, 0, none⟩ = some (.int .i64 a0) ∧ w'.cell? ⟨g1, 1, none⟩ = some (.int .i64 a1) ∧ w'.cell? ⟨g1, 2, none⟩ = some (.int .i64 a2) ∧ w'.cell? ⟨g2, 0, none⟩ = some (.int .i64 b0) ∧ w'.cell? ⟨g2, 1, none⟩ = some (.int .i64 b1) ∧ w'.cell? ⟨g2, 2, none⟩ = some (.int .i64 b2))
    (first | exact KS.out _ E1.out.drew (Ext.refl _).drew | exact KS.out _ (E1.out.alloc _).drew ((Ext.refl _).alloc _).drew | exact KS.out _ (E1.out.drew.alloc _) ((Ext.refl _).drew.alloc _) | exact KS.out _ (ExtD.alloc (by assumption) _) (Ext.alloc (by assumption) _) | exact KS.out _ (by assumption) (by assumption))
    (first | (go_at_call 96; refine (cmpI_calls _ _ _).mono ?_; rintro e w5 ⟨rfl, rfl⟩) | (go_at_call 95; refine (HO.out _ _ (by first | exact (Arr.new w1 _ _).drew | exact Arr.new w1 _ _ | exact Arr.new w1.drew _ _)).mono ?_; rintro e w5 ⟨rfl, rfl⟩))
  go_wp2_with fail
  go_ret
  exact ⟨rfl, by first | exact (E1.out.alloc _).drew | assumption⟩
end Go.Proofs.Ytlgngnkaiidbeaa
