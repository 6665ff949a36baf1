/- What the card's list gives: the table of constants lies in its variable. -/
import Derived.Test.YtlgngnkaiidbeaaDoorSha2
import Derived.Test.YtlgngnkaiidbeaaDoorRows
import Derived.ProofKit
import Derived.LaidMore
import Derived.OpenShut
import Derived.Stop.Joined
set_option maxRecDepth 100000
set_option linter.unusedVariables false
set_option linter.unusedSimpArgs false
namespace Go.Proofs.YtlgngnkaiidbeaaDoor
open Go.ChangeShapes Go.WideShapes Go.ChangeAt Go.WideMaps Go.WideElems Go.RowKit

theorem gK : Tryd.prog.globalNamed "taximeter/sha.constants" = some 0 := by kernel_rfl
theorem tK : (Tryd.prog.globals[0]?).map (·.type) = some 83 := by kernel_rfl
theorem datumK : (Rows.laid_taximeter_sha_constants : DataW Unit) = .agg (Sha.K.map fun n : Nat => .lit (.int .u32 (n : Int))) := by kernel_rfl

theorem of_laid {W : World} (h : laidMetH Tryd.prog [("taximeter/sha.constants", Rows.laid_taximeter_sha_constants)] W) : Laid W := by
  rw [MakeChecks.laidMetH_plain _ _ _ (by kernel_rfl)] at h
  obtain ⟨ps, ⟨g0, t0, cs0, f0, p0, q0, hg0, ht0, hv0, hd0, _, _⟩, _, _⟩ := h
  obtain rfl := Option.some.inj (gK.symm.trans hg0)
  obtain rfl := Option.some.inj (tK.symm.trans ht0)
  rw [datumK] at hd0
  obtain ⟨xs, m1, hxx, hx1, hlen, hn3, hel⟩ := DataW.trod_array Tryd.underlying83 hd0
  have c29 : Tryd.prog.cellsOf 70 = 1 := by kernel_rfl
  intro i hi
  have h1 := hel i hi
  rw [c29, Nat.mul_one, List.getElem?_eq_getElem (by omega)] at h1
  obtain ⟨z, hz, hz2, _⟩ := DataW.trod_int Tryd.underlying70 h1
  have hcell : cs0.toList[i]? = some (.int .u32 z) := by
    have := congrArg (·[0]?) hz
    simpa [List.getElem?_take, List.getElem?_drop] using this
  have hk : i < Sha.K.length := hi
  have hzi : z = (Sha.at_ Sha.K i : Int) := by
    simp only [Prod.mk.injEq, DataW.agg.injEq] at hx1
    have h2 := congrArg (·[i]?) hx1.1
    simp only [List.getElem?_map, List.getElem?_eq_getElem hk, List.getElem?_eq_getElem (show i < xs.length by omega), Option.map_some, Option.some.injEq, hz2] at h2
    rw [Sha.at_, List.getElem?_eq_getElem hk]
    cases h2
    rfl
  have hv := World.var?_cell hg0 hv0 i
  rw [hv, ← hzi]
  simpa using hcell
end Go.Proofs.YtlgngnkaiidbeaaDoor
