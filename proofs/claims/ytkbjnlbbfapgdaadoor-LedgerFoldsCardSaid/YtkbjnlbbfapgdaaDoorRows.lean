/-
  NARROWER THAN 'FOR EVERY INPUT', by the rows' own cells (each row's printed sentence says how): AcctStays: laid · AcctRight: laid · SnapEncodes: laid · SnapDecodes: laid · SnapShort: laid · LedgerApplies: laid · LedgerApart: laid · LedgerOpens: laid · LedgerFolds: laid.
  DERIVED. THE GIVEN ROWS OF THIS SEAT. 9 by the template 'for every input the law returns true; each argument reads behind the call as it read before'; 0 by the template 'total and deterministic' (their statements: YtkbjnlbbfapgdaaDoorTotals.lean).
  GIVEN WITH THE SEED: the statements are not yours to turn. If you find one false, say at which input.
  Laid BY PROGRAM, IN A SANDBOX (cutbox-rows.mjs): the forced cells as the released guide's own fill.sh prints them over the translation fba1b8e8825cebd2… (all of the seat's roots in one cut). By AI agents, Wed Nov 11 2026. No macro, syntax, notation, axiom, sorry.
-/
import Derived.Test.YtkbjnlbbfapgdaaDoorChecked
import GoSem.Claim
import GoSem.ClaimJoined
import GoSem.ClaimMapViews
import Derived.JoinedTies
import Derived.KernelRfl
namespace Go.Proofs.YtkbjnlbbfapgdaaDoor
/- THE CELL 'sum', in the pinned program and in every row, IS THE sha256 OF THE DUMP (.gsa) THAT YtkbjnlbbfapgdaaDoorProg.lean LOADS. Nothing in Lean hashes anything: it is a label: what it is worth is what the hold of that sum in a sandbox is worth. -/
noncomputable def Tryd.pinned : Pinned := { name := "ytkbjnlbbfapgdaadoor", sum := "fba1b8e8825cebd246953cdd6a1032d7b846b6bca5cec93b584d79074e257301", checked := Tryd.checked }
namespace Rows
def none {H : Type} : Left H := { results := [], args := [] }

/- WHAT THE LISTED PACKAGE-LEVEL VARIABLES READ AS WHEN THE CALL BEGINS. Each datum BY PROGRAM (the guide's laid-datum.mjs) off the statement by which the dump's own 'gosem.cut.vars' lays the variable. In a bare row this is a premise. The card (YtkbjnlbbfapgdaaDoorCards.lean) ties it to the program's text. -/
def laid_math_bits_deBruijn64tab {H : Type} : DataW H := .agg [.lit (.int .u8 0), .lit (.int .u8 1), .lit (.int .u8 56), .lit (.int .u8 2), .lit (.int .u8 57), .lit (.int .u8 49), .lit (.int .u8 28), .lit (.int .u8 3), .lit (.int .u8 61), .lit (.int .u8 58), .lit (.int .u8 42), .lit (.int .u8 50), .lit (.int .u8 38), .lit (.int .u8 29), .lit (.int .u8 17), .lit (.int .u8 4), .lit (.int .u8 62), .lit (.int .u8 47), .lit (.int .u8 59), .lit (.int .u8 36), .lit (.int .u8 45), .lit (.int .u8 43), .lit (.int .u8 51), .lit (.int .u8 22), .lit (.int .u8 53), .lit (.int .u8 39), .lit (.int .u8 33), .lit (.int .u8 30), .lit (.int .u8 24), .lit (.int .u8 18), .lit (.int .u8 12), .lit (.int .u8 5), .lit (.int .u8 63), .lit (.int .u8 55), .lit (.int .u8 48), .lit (.int .u8 27), .lit (.int .u8 60), .lit (.int .u8 41), .lit (.int .u8 37), .lit (.int .u8 16), .lit (.int .u8 46), .lit (.int .u8 35), .lit (.int .u8 44), .lit (.int .u8 21), .lit (.int .u8 52), .lit (.int .u8 32), .lit (.int .u8 23), .lit (.int .u8 11), .lit (.int .u8 54), .lit (.int .u8 26), .lit (.int .u8 40), .lit (.int .u8 15), .lit (.int .u8 34), .lit (.int .u8 20), .lit (.int .u8 31), .lit (.int .u8 10), .lit (.int .u8 25), .lit (.int .u8 14), .lit (.int .u8 19), .lit (.int .u8 9), .lit (.int .u8 13), .lit (.int .u8 8), .lit (.int .u8 7), .lit (.int .u8 6)]

/-- 'taximeterlaw15.AcctStays': WHATEVER THE INPUT: true; the input reads as it did. -/
def acctStaysSpec : ChangeSpec := { name := "acctStays", fn := fun _ => fun
  | [d1, d2] => { results := [.lit (.bool true)], args := [d1, d2] }
  | _ => none }
def acctStaysRow : OpenClaim := { program := "ytkbjnlbbfapgdaadoor", sum := "fba1b8e8825cebd246953cdd6a1032d7b846b6bca5cec93b584d79074e257301", func := "taximeter/taximeterlaw15.AcctStays", spec := "acctStays", inPlace := ["math.Float64frombits", "math.Float64bits"], unfollowed := true, recurses := true, named := ["math/bits.deBruijn64tab"], apart := false, laid := [("math/bits.deBruijn64tab", laid_math_bits_deBruijn64tab)] }
def AcctStaysSaid : Prop := acctStaysRow.holds Tryd.pinned (OpenSpec.ofChange acctStaysSpec)

/-- ITS FALSE NEIGHBOUR: 'it returns false'. Refute it at one input. -/
def acctStaysWrong : ChangeSpec := { name := "acctStays", fn := fun _ => fun
  | [d1, d2] => { results := [.lit (.bool false)], args := [d1, d2] }
  | _ => none }
def AcctStaysWrongFalsely : Prop := acctStaysRow.holds Tryd.pinned (OpenSpec.ofChange acctStaysWrong)

/-- 'taximeterlaw15.AcctRight': WHATEVER THE INPUT: true; the input reads as it did. -/
def acctRightSpec : ChangeSpec := { name := "acctRight", fn := fun _ => fun
  | [d1, d2] => { results := [.lit (.bool true)], args := [d1, d2] }
  | _ => none }
def acctRightRow : OpenClaim := { program := "ytkbjnlbbfapgdaadoor", sum := "fba1b8e8825cebd246953cdd6a1032d7b846b6bca5cec93b584d79074e257301", func := "taximeter/taximeterlaw15.AcctRight", spec := "acctRight", inPlace := ["math.Float64frombits", "math.Float64bits"], unfollowed := true, recurses := true, named := ["math/bits.deBruijn64tab"], apart := false, laid := [("math/bits.deBruijn64tab", laid_math_bits_deBruijn64tab)] }
def AcctRightSaid : Prop := acctRightRow.holds Tryd.pinned (OpenSpec.ofChange acctRightSpec)

/-- ITS FALSE NEIGHBOUR: 'it returns false'. Refute it at one input. -/
def acctRightWrong : ChangeSpec := { name := "acctRight", fn := fun _ => fun
  | [d1, d2] => { results := [.lit (.bool false)], args := [d1, d2] }
  | _ => none }
def AcctRightWrongFalsely : Prop := acctRightRow.holds Tryd.pinned (OpenSpec.ofChange acctRightWrong)

/-- 'taximeterlaw17.SnapEncodes': WHATEVER THE INPUT: true; the input reads as it did. -/
def snapEncodesSpec : ChangeSpec := { name := "snapEncodes", fn := fun _ => fun
  | [d] => { results := [.lit (.bool true)], args := [d] }
  | _ => none }
def snapEncodesRow : OpenClaim := { program := "ytkbjnlbbfapgdaadoor", sum := "fba1b8e8825cebd246953cdd6a1032d7b846b6bca5cec93b584d79074e257301", func := "taximeter/taximeterlaw17.SnapEncodes", spec := "snapEncodes", inPlace := ["math.Float64frombits", "math.Float64bits"], unfollowed := true, recurses := true, named := ["math/bits.deBruijn64tab"], apart := false, laid := [("math/bits.deBruijn64tab", laid_math_bits_deBruijn64tab)] }
def SnapEncodesSaid : Prop := snapEncodesRow.holds Tryd.pinned (OpenSpec.ofChange snapEncodesSpec)

/-- ITS FALSE NEIGHBOUR: 'it returns false'. Refute it at one input. -/
def snapEncodesWrong : ChangeSpec := { name := "snapEncodes", fn := fun _ => fun
  | [d] => { results := [.lit (.bool false)], args := [d] }
  | _ => none }
def SnapEncodesWrongFalsely : Prop := snapEncodesRow.holds Tryd.pinned (OpenSpec.ofChange snapEncodesWrong)

/-- 'taximeterlaw17.SnapDecodes': WHATEVER THE INPUT: true; the input reads as it did. -/
def snapDecodesSpec : ChangeSpec := { name := "snapDecodes", fn := fun _ => fun
  | [d1, d2] => { results := [.lit (.bool true)], args := [d1, d2] }
  | _ => none }
def snapDecodesRow : OpenClaim := { program := "ytkbjnlbbfapgdaadoor", sum := "fba1b8e8825cebd246953cdd6a1032d7b846b6bca5cec93b584d79074e257301", func := "taximeter/taximeterlaw17.SnapDecodes", spec := "snapDecodes", inPlace := ["math.Float64frombits", "math.Float64bits"], unfollowed := true, recurses := true, named := ["math/bits.deBruijn64tab"], apart := false, laid := [("math/bits.deBruijn64tab", laid_math_bits_deBruijn64tab)] }
def SnapDecodesSaid : Prop := snapDecodesRow.holds Tryd.pinned (OpenSpec.ofChange snapDecodesSpec)

/-- ITS FALSE NEIGHBOUR: 'it returns false'. Refute it at one input. -/
def snapDecodesWrong : ChangeSpec := { name := "snapDecodes", fn := fun _ => fun
  | [d1, d2] => { results := [.lit (.bool false)], args := [d1, d2] }
  | _ => none }
def SnapDecodesWrongFalsely : Prop := snapDecodesRow.holds Tryd.pinned (OpenSpec.ofChange snapDecodesWrong)

/-- 'taximeterlaw17.SnapShort': WHATEVER THE INPUT: true; the input reads as it did. -/
def snapShortSpec : ChangeSpec := { name := "snapShort", fn := fun _ => fun
  | [d1, d2, d3] => { results := [.lit (.bool true)], args := [d1, d2, d3] }
  | _ => none }
def snapShortRow : OpenClaim := { program := "ytkbjnlbbfapgdaadoor", sum := "fba1b8e8825cebd246953cdd6a1032d7b846b6bca5cec93b584d79074e257301", func := "taximeter/taximeterlaw17.SnapShort", spec := "snapShort", inPlace := ["math.Float64frombits", "math.Float64bits"], unfollowed := true, recurses := true, named := ["math/bits.deBruijn64tab"], apart := false, laid := [("math/bits.deBruijn64tab", laid_math_bits_deBruijn64tab)] }
def SnapShortSaid : Prop := snapShortRow.holds Tryd.pinned (OpenSpec.ofChange snapShortSpec)

/-- ITS FALSE NEIGHBOUR: 'it returns false'. Refute it at one input. -/
def snapShortWrong : ChangeSpec := { name := "snapShort", fn := fun _ => fun
  | [d1, d2, d3] => { results := [.lit (.bool false)], args := [d1, d2, d3] }
  | _ => none }
def SnapShortWrongFalsely : Prop := snapShortRow.holds Tryd.pinned (OpenSpec.ofChange snapShortWrong)

/-- 'taximeterlaw16.LedgerApplies': WHATEVER THE INPUT: true; the input reads as it did. -/
def ledgerAppliesSpec : ChangeSpec := { name := "ledgerApplies", fn := fun _ => fun
  | [d1, d2, d3] => { results := [.lit (.bool true)], args := [d1, d2, d3] }
  | _ => none }
def ledgerAppliesRow : OpenClaim := { program := "ytkbjnlbbfapgdaadoor", sum := "fba1b8e8825cebd246953cdd6a1032d7b846b6bca5cec93b584d79074e257301", func := "taximeter/taximeterlaw16.LedgerApplies", spec := "ledgerApplies", inPlace := ["math.Float64frombits", "math.Float64bits", "internal/bytealg.abigen_runtime_cmpstring", "slices.overlaps[taximeter/api.Account]"], unfollowed := true, recurses := true, named := ["math/bits.deBruijn64tab"], apart := false, laid := [("math/bits.deBruijn64tab", laid_math_bits_deBruijn64tab)] }
def LedgerAppliesSaid : Prop := ledgerAppliesRow.holds Tryd.pinned (OpenSpec.ofChange ledgerAppliesSpec)

/-- ITS FALSE NEIGHBOUR: 'it returns false'. Refute it at one input. -/
def ledgerAppliesWrong : ChangeSpec := { name := "ledgerApplies", fn := fun _ => fun
  | [d1, d2, d3] => { results := [.lit (.bool false)], args := [d1, d2, d3] }
  | _ => none }
def LedgerAppliesWrongFalsely : Prop := ledgerAppliesRow.holds Tryd.pinned (OpenSpec.ofChange ledgerAppliesWrong)

/-- 'taximeterlaw16.LedgerApart': WHATEVER THE INPUT: true; the input reads as it did. -/
def ledgerApartSpec : ChangeSpec := { name := "ledgerApart", fn := fun _ => fun
  | [d1, d2, d3] => { results := [.lit (.bool true)], args := [d1, d2, d3] }
  | _ => none }
def ledgerApartRow : OpenClaim := { program := "ytkbjnlbbfapgdaadoor", sum := "fba1b8e8825cebd246953cdd6a1032d7b846b6bca5cec93b584d79074e257301", func := "taximeter/taximeterlaw16.LedgerApart", spec := "ledgerApart", inPlace := ["math.Float64frombits", "math.Float64bits", "internal/bytealg.abigen_runtime_cmpstring", "slices.overlaps[taximeter/api.Account]"], unfollowed := true, recurses := true, named := ["math/bits.deBruijn64tab"], apart := false, laid := [("math/bits.deBruijn64tab", laid_math_bits_deBruijn64tab)] }
def LedgerApartSaid : Prop := ledgerApartRow.holds Tryd.pinned (OpenSpec.ofChange ledgerApartSpec)

/-- ITS FALSE NEIGHBOUR: 'it returns false'. Refute it at one input. -/
def ledgerApartWrong : ChangeSpec := { name := "ledgerApart", fn := fun _ => fun
  | [d1, d2, d3] => { results := [.lit (.bool false)], args := [d1, d2, d3] }
  | _ => none }
def LedgerApartWrongFalsely : Prop := ledgerApartRow.holds Tryd.pinned (OpenSpec.ofChange ledgerApartWrong)

/-- 'taximeterlaw16.LedgerOpens': WHATEVER THE INPUT: true; the input reads as it did. -/
def ledgerOpensSpec : ChangeSpec := { name := "ledgerOpens", fn := fun _ => fun
  | [d] => { results := [.lit (.bool true)], args := [d] }
  | _ => none }
def ledgerOpensRow : OpenClaim := { program := "ytkbjnlbbfapgdaadoor", sum := "fba1b8e8825cebd246953cdd6a1032d7b846b6bca5cec93b584d79074e257301", func := "taximeter/taximeterlaw16.LedgerOpens", spec := "ledgerOpens", inPlace := ["math.Float64frombits", "math.Float64bits", "internal/bytealg.abigen_runtime_cmpstring", "slices.overlaps[taximeter/api.Account]"], unfollowed := true, recurses := true, named := ["math/bits.deBruijn64tab"], apart := false, laid := [("math/bits.deBruijn64tab", laid_math_bits_deBruijn64tab)] }
def LedgerOpensSaid : Prop := ledgerOpensRow.holds Tryd.pinned (OpenSpec.ofChange ledgerOpensSpec)

/-- ITS FALSE NEIGHBOUR: 'it returns false'. Refute it at one input. -/
def ledgerOpensWrong : ChangeSpec := { name := "ledgerOpens", fn := fun _ => fun
  | [d] => { results := [.lit (.bool false)], args := [d] }
  | _ => none }
def LedgerOpensWrongFalsely : Prop := ledgerOpensRow.holds Tryd.pinned (OpenSpec.ofChange ledgerOpensWrong)

/-- 'taximeterlaw16.LedgerFolds': WHATEVER THE INPUT: true; the input reads as it did. -/
def ledgerFoldsSpec : ChangeSpec := { name := "ledgerFolds", fn := fun _ => fun
  | [d1, d2] => { results := [.lit (.bool true)], args := [d1, d2] }
  | _ => none }
def ledgerFoldsRow : OpenClaim := { program := "ytkbjnlbbfapgdaadoor", sum := "fba1b8e8825cebd246953cdd6a1032d7b846b6bca5cec93b584d79074e257301", func := "taximeter/taximeterlaw16.LedgerFolds", spec := "ledgerFolds", inPlace := ["math.Float64frombits", "math.Float64bits", "internal/bytealg.abigen_runtime_cmpstring", "slices.overlaps[taximeter/api.Account]"], unfollowed := true, recurses := true, named := ["math/bits.deBruijn64tab"], apart := false, laid := [("math/bits.deBruijn64tab", laid_math_bits_deBruijn64tab)] }
def LedgerFoldsSaid : Prop := ledgerFoldsRow.holds Tryd.pinned (OpenSpec.ofChange ledgerFoldsSpec)

/-- ITS FALSE NEIGHBOUR: 'it returns false'. Refute it at one input. -/
def ledgerFoldsWrong : ChangeSpec := { name := "ledgerFolds", fn := fun _ => fun
  | [d1, d2] => { results := [.lit (.bool false)], args := [d1, d2] }
  | _ => none }
def LedgerFoldsWrongFalsely : Prop := ledgerFoldsRow.holds Tryd.pinned (OpenSpec.ofChange ledgerFoldsWrong)

/- THE SECOND FORM. 'bulk': how many values and letters a reading holds, each counted each time it is reached (what is shared counts as often as it is met; a slice's spare places count too). A statement '..UptoSaid' is the law's where the arguments, and the package variables that the reading takes, are together of bulk at most 1048576: NARROWER than '..Said'. Prove '..Said' where nothing that the law and all that it calls make is longer than what came in: it says more and counts as full. Else prove '..UptoSaid'. A law counts once. -/
mutual
def uptoBulk {H : Type} : DataW H → Nat
  | .lit (.string bytes) => bytes.length + 1
  | .lit _ => 1
  | .nil => 1
  | .ptr d => uptoBulk d + 1
  | .slice elems spare => uptoBulkAll elems + uptoBulkAll spare + 1
  | .agg parts => uptoBulkAll parts + 1
  | .iface _ d => uptoBulk d + 1
  | .map entries => uptoBulkEntries entries + 1
  | .held _ => 1
def uptoBulkAll {H : Type} : List (DataW H) → Nat
  | [] => 0
  | d :: r => uptoBulk d + uptoBulkAll r
def uptoBulkEntries {H : Type} : List (Lit × DataW H) → Nat
  | [] => 0
  | x :: r => uptoBulkEntry x + uptoBulkEntries r
def uptoBulkEntry {H : Type} : Lit × DataW H → Nat
  | (.string bytes, d) => bytes.length + uptoBulk d + 1
  | (_, d) => uptoBulk d + 1
 end
def uptoSmall : (H : Type) → List (DataW H) → Bool := fun _ ds => decide (uptoBulkAll ds ≤ 1048576)
def OpenSpec.upto (s : _root_.Go.ChangeSpec) : _root_.Go.OpenSpec := { _root_.Go.OpenSpec.ofChange s with cond := some uptoSmall }

/-- 'taximeterlaw15.AcctStays', WHERE WHAT IT READS IS OF BULK AT MOST 1048576: true; the input reads as it did. -/
def acctStaysUptoRow : OpenClaim := { program := "ytkbjnlbbfapgdaadoor", sum := "fba1b8e8825cebd246953cdd6a1032d7b846b6bca5cec93b584d79074e257301", func := "taximeter/taximeterlaw15.AcctStays", spec := "acctStays", inPlace := ["math.Float64frombits", "math.Float64bits"], unfollowed := true, recurses := true, named := ["math/bits.deBruijn64tab"], apart := false, laid := [("math/bits.deBruijn64tab", laid_math_bits_deBruijn64tab)], narrowed := true }
def AcctStaysUptoSaid : Prop := acctStaysUptoRow.holds Tryd.pinned (OpenSpec.upto acctStaysSpec)

/-- 'taximeterlaw15.AcctRight', WHERE WHAT IT READS IS OF BULK AT MOST 1048576: true; the input reads as it did. -/
def acctRightUptoRow : OpenClaim := { program := "ytkbjnlbbfapgdaadoor", sum := "fba1b8e8825cebd246953cdd6a1032d7b846b6bca5cec93b584d79074e257301", func := "taximeter/taximeterlaw15.AcctRight", spec := "acctRight", inPlace := ["math.Float64frombits", "math.Float64bits"], unfollowed := true, recurses := true, named := ["math/bits.deBruijn64tab"], apart := false, laid := [("math/bits.deBruijn64tab", laid_math_bits_deBruijn64tab)], narrowed := true }
def AcctRightUptoSaid : Prop := acctRightUptoRow.holds Tryd.pinned (OpenSpec.upto acctRightSpec)

/-- 'taximeterlaw17.SnapEncodes', WHERE WHAT IT READS IS OF BULK AT MOST 1048576: true; the input reads as it did. -/
def snapEncodesUptoRow : OpenClaim := { program := "ytkbjnlbbfapgdaadoor", sum := "fba1b8e8825cebd246953cdd6a1032d7b846b6bca5cec93b584d79074e257301", func := "taximeter/taximeterlaw17.SnapEncodes", spec := "snapEncodes", inPlace := ["math.Float64frombits", "math.Float64bits"], unfollowed := true, recurses := true, named := ["math/bits.deBruijn64tab"], apart := false, laid := [("math/bits.deBruijn64tab", laid_math_bits_deBruijn64tab)], narrowed := true }
def SnapEncodesUptoSaid : Prop := snapEncodesUptoRow.holds Tryd.pinned (OpenSpec.upto snapEncodesSpec)

/-- 'taximeterlaw17.SnapDecodes', WHERE WHAT IT READS IS OF BULK AT MOST 1048576: true; the input reads as it did. -/
def snapDecodesUptoRow : OpenClaim := { program := "ytkbjnlbbfapgdaadoor", sum := "fba1b8e8825cebd246953cdd6a1032d7b846b6bca5cec93b584d79074e257301", func := "taximeter/taximeterlaw17.SnapDecodes", spec := "snapDecodes", inPlace := ["math.Float64frombits", "math.Float64bits"], unfollowed := true, recurses := true, named := ["math/bits.deBruijn64tab"], apart := false, laid := [("math/bits.deBruijn64tab", laid_math_bits_deBruijn64tab)], narrowed := true }
def SnapDecodesUptoSaid : Prop := snapDecodesUptoRow.holds Tryd.pinned (OpenSpec.upto snapDecodesSpec)

/-- 'taximeterlaw17.SnapShort', WHERE WHAT IT READS IS OF BULK AT MOST 1048576: true; the input reads as it did. -/
def snapShortUptoRow : OpenClaim := { program := "ytkbjnlbbfapgdaadoor", sum := "fba1b8e8825cebd246953cdd6a1032d7b846b6bca5cec93b584d79074e257301", func := "taximeter/taximeterlaw17.SnapShort", spec := "snapShort", inPlace := ["math.Float64frombits", "math.Float64bits"], unfollowed := true, recurses := true, named := ["math/bits.deBruijn64tab"], apart := false, laid := [("math/bits.deBruijn64tab", laid_math_bits_deBruijn64tab)], narrowed := true }
def SnapShortUptoSaid : Prop := snapShortUptoRow.holds Tryd.pinned (OpenSpec.upto snapShortSpec)

/-- 'taximeterlaw16.LedgerApplies', WHERE WHAT IT READS IS OF BULK AT MOST 1048576: true; the input reads as it did. -/
def ledgerAppliesUptoRow : OpenClaim := { program := "ytkbjnlbbfapgdaadoor", sum := "fba1b8e8825cebd246953cdd6a1032d7b846b6bca5cec93b584d79074e257301", func := "taximeter/taximeterlaw16.LedgerApplies", spec := "ledgerApplies", inPlace := ["math.Float64frombits", "math.Float64bits", "internal/bytealg.abigen_runtime_cmpstring", "slices.overlaps[taximeter/api.Account]"], unfollowed := true, recurses := true, named := ["math/bits.deBruijn64tab"], apart := false, laid := [("math/bits.deBruijn64tab", laid_math_bits_deBruijn64tab)], narrowed := true }
def LedgerAppliesUptoSaid : Prop := ledgerAppliesUptoRow.holds Tryd.pinned (OpenSpec.upto ledgerAppliesSpec)

/-- 'taximeterlaw16.LedgerApart', WHERE WHAT IT READS IS OF BULK AT MOST 1048576: true; the input reads as it did. -/
def ledgerApartUptoRow : OpenClaim := { program := "ytkbjnlbbfapgdaadoor", sum := "fba1b8e8825cebd246953cdd6a1032d7b846b6bca5cec93b584d79074e257301", func := "taximeter/taximeterlaw16.LedgerApart", spec := "ledgerApart", inPlace := ["math.Float64frombits", "math.Float64bits", "internal/bytealg.abigen_runtime_cmpstring", "slices.overlaps[taximeter/api.Account]"], unfollowed := true, recurses := true, named := ["math/bits.deBruijn64tab"], apart := false, laid := [("math/bits.deBruijn64tab", laid_math_bits_deBruijn64tab)], narrowed := true }
def LedgerApartUptoSaid : Prop := ledgerApartUptoRow.holds Tryd.pinned (OpenSpec.upto ledgerApartSpec)

/-- 'taximeterlaw16.LedgerOpens', WHERE WHAT IT READS IS OF BULK AT MOST 1048576: true; the input reads as it did. -/
def ledgerOpensUptoRow : OpenClaim := { program := "ytkbjnlbbfapgdaadoor", sum := "fba1b8e8825cebd246953cdd6a1032d7b846b6bca5cec93b584d79074e257301", func := "taximeter/taximeterlaw16.LedgerOpens", spec := "ledgerOpens", inPlace := ["math.Float64frombits", "math.Float64bits", "internal/bytealg.abigen_runtime_cmpstring", "slices.overlaps[taximeter/api.Account]"], unfollowed := true, recurses := true, named := ["math/bits.deBruijn64tab"], apart := false, laid := [("math/bits.deBruijn64tab", laid_math_bits_deBruijn64tab)], narrowed := true }
def LedgerOpensUptoSaid : Prop := ledgerOpensUptoRow.holds Tryd.pinned (OpenSpec.upto ledgerOpensSpec)

/-- 'taximeterlaw16.LedgerFolds', WHERE WHAT IT READS IS OF BULK AT MOST 1048576: true; the input reads as it did. -/
def ledgerFoldsUptoRow : OpenClaim := { program := "ytkbjnlbbfapgdaadoor", sum := "fba1b8e8825cebd246953cdd6a1032d7b846b6bca5cec93b584d79074e257301", func := "taximeter/taximeterlaw16.LedgerFolds", spec := "ledgerFolds", inPlace := ["math.Float64frombits", "math.Float64bits", "internal/bytealg.abigen_runtime_cmpstring", "slices.overlaps[taximeter/api.Account]"], unfollowed := true, recurses := true, named := ["math/bits.deBruijn64tab"], apart := false, laid := [("math/bits.deBruijn64tab", laid_math_bits_deBruijn64tab)], narrowed := true }
def LedgerFoldsUptoSaid : Prop := ledgerFoldsUptoRow.holds Tryd.pinned (OpenSpec.upto ledgerFoldsSpec)

end Rows
end Go.Proofs.YtkbjnlbbfapgdaaDoor
