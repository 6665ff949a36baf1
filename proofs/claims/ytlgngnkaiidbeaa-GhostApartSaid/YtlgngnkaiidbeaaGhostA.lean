/- ghosts in memory. -/
import Derived.Test.YtlgngnkaiidbeaaPlainGhost
import Derived.Test.YtlgngnkaiidbeaaMemV
import Derived.Test.YtlgngnkaiidbeaaArr
import Derived.Test.YtlgngnkaiidbeaaArr2
import Derived.Test.YtlgngnkaiidbeaaShareA
import Derived.Test.YtlgngnkaiidbeaaRdEl
import Derived.Test.YtlgngnkaiidbeaaAppW
set_option maxRecDepth 100000
set_option linter.unusedVariables false
set_option linter.unusedSimpArgs false
namespace Go.Proofs.Ytlgngnkaiidbeaa
open Go.RowKit

def ghV (x : Gh) : Array Value := #[.string x.t, .int .u64 (x.p : Int), .int .u64 (x.s : Int), .int .u64 (x.c : Int), .int .u64 (x.l : Int)]
def Gh.cs (x : Gh) : List Value := [.string x.t, .int .u64 (x.p : Int), .int .u64 (x.s : Int), .int .u64 (x.c : Int), .int .u64 (x.l : Int)]
theorem Gh.cs_len (x : Gh) : x.cs.length = 5 := rfl
theorem gh_one (x : Gh) : ∀ v ∈ x.cs, v.oneCell' = true := by
  intro v hv
  simp [Gh.cs] at hv
  rcases hv with rfl | rfl | rfl | rfl | rfl <;> rfl
theorem ghV_one (x : Gh) : ∀ v ∈ ghV x, v.oneCell' = true := by
  intro v hv
  simp [ghV] at hv
  rcases hv with rfl | rfl | rfl | rfl | rfl <;> rfl
theorem ghs_one (l : List Gh) : ∀ u ∈ l.flatMap Gh.cs, u.oneCell' = true := by
  intro u hu
  obtain ⟨x, _, hx⟩ := List.mem_flatMap.1 hu
  exact gh_one x u hx
instance : Inhabited Gh := ⟨⟨ByteArray.empty, 0, 0, 0, 0⟩⟩
theorem zero_gh : (Try.prog.info? 50).map (fun i => (i.zero, i.size)) = some (some (.agg (ghV ⟨ByteArray.empty, 0, 0, 0, 0⟩)), 5) := by kernel_rfl
theorem size_gh : (Try.prog.info? 50).map (·.size) = some 5 := by kernel_rfl
theorem info_gh : (Try.prog.info? 50).map (fun i => (i.zero, i.size, i.bytes)) = some (some (.agg (ghV ⟨ByteArray.empty, 0, 0, 0, 0⟩)), 5, 48) := by kernel_rfl
theorem gh_cells {w : World} {g : Nat} {t : TypeId} {x : Gh} (h : Arr w g t (ghV x)) : w.cell? ⟨g, 0, none⟩ = some (.string x.t) ∧ w.cell? ⟨g, 1, none⟩ = some (.int .u64 (x.p : Int)) ∧ w.cell? ⟨g, 2, none⟩ = some (.int .u64 (x.s : Int)) ∧ w.cell? ⟨g, 3, none⟩ = some (.int .u64 (x.c : Int)) ∧ w.cell? ⟨g, 4, none⟩ = some (.int .u64 (x.l : Int)) :=
  ⟨h.cell_some rfl, h.cell_some rfl, h.cell_some rfl, h.cell_some rfl, h.cell_some rfl⟩
theorem RdE.five {w : World} {A : Option Addr} {xs : List Gh} (h : RdE Gh.cs w A xs) {i : Nat} (hi : i < xs.length) : ∃ ad, A = some ad ∧ w.cell? (ad.add (i * 5)) = some (.string xs[i].t) ∧ w.cell? ⟨(ad.add (i * 5)).block, (ad.add (i * 5)).off + 1, none⟩ = some (.int .u64 (xs[i].p : Int)) ∧ w.cell? ⟨(ad.add (i * 5)).block, (ad.add (i * 5)).off + 2, none⟩ = some (.int .u64 (xs[i].s : Int)) ∧
    w.cell? ⟨(ad.add (i * 5)).block, (ad.add (i * 5)).off + 3, none⟩ = some (.int .u64 (xs[i].c : Int)) ∧ w.cell? ⟨(ad.add (i * 5)).block, (ad.add (i * 5)).off + 4, none⟩ = some (.int .u64 (xs[i].l : Int)) := by
  obtain ⟨ad, ha, hc⟩ := RdE.at_ Gh.cs_len h hi (by decide)
  refine ⟨ad, ha, hc 0 _ rfl, ?_, ?_, ?_, ?_⟩
  · rw [← add_off _ 1 (by decide)]; exact hc 1 _ rfl
  · rw [← add_off _ 2 (by decide)]; exact hc 2 _ rfl
  · rw [← add_off _ 3 (by decide)]; exact hc 3 _ rfl
  · rw [← add_off _ 4 (by decide)]; exact hc 4 _ rfl
theorem RdE.fiveW {w : World} {A : Option Addr} {xs : List Gh} (h : RdE Gh.cs w A xs) {i : Nat} (hi : i < xs.length) : ∃ ad, A = some ad ∧ ∀ W, Ext w W → W.cell? (ad.add (i * 5)) = some (.string xs[i].t) ∧ W.cell? ⟨(ad.add (i * 5)).block, (ad.add (i * 5)).off + 1, none⟩ = some (.int .u64 (xs[i].p : Int)) ∧ W.cell? ⟨(ad.add (i * 5)).block, (ad.add (i * 5)).off + 2, none⟩ = some (.int .u64 (xs[i].s : Int)) ∧
    W.cell? ⟨(ad.add (i * 5)).block, (ad.add (i * 5)).off + 3, none⟩ = some (.int .u64 (xs[i].c : Int)) ∧ W.cell? ⟨(ad.add (i * 5)).block, (ad.add (i * 5)).off + 4, none⟩ = some (.int .u64 (xs[i].l : Int)) := by
  obtain ⟨ad, ha, _⟩ := h.five hi
  refine ⟨ad, ha, fun W hW => ?_⟩
  obtain ⟨ad', ha', hc⟩ := (RdE.ext h hW).five hi
  rw [ha] at ha'; cases ha'; exact hc
end Go.Proofs.Ytlgngnkaiidbeaa
