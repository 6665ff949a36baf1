/- Contracts of package octet (Put, Fits) and of ref01.Fits. -/
import Derived.Test.YtlgngnkaiidbeaaRef01
set_option maxRecDepth 100000
set_option linter.unusedVariables false
set_option linter.unusedSimpArgs false
namespace Go.Proofs.Ytlgngnkaiidbeaa
open Go.RowKit

theorem ret_bool {a b : Bool} (h : a = b) : Ending.returned (.bool a) = .returned (.bool b) := by rw [h]
theorem fitsW_no {width : Int} {n : Nat} (h : okW width = false) : fitsW width n = false := by simp [fitsW, h]
theorem fitsW_yes {width : Int} {n : Nat} (h : okW width = true) : fitsW width n = decide (n < 256 ^ width.toNat) := by simp [fitsW, h]

/-- what Put answers -/
def putW (bs : List UInt8) (width : Int) (n : Nat) : List UInt8 := if okW width then bs ++ leB width.toNat n else bs

end Go.Proofs.Ytlgngnkaiidbeaa
