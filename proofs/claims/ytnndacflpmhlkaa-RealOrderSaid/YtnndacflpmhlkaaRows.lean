/-
  No cell of these rows narrows 'for every input' (looked for: loops, veiled, ifaces, maps, wideKeys, modest, calm, conditions, laid).
  DERIVED. THE GIVEN ROWS OF THIS SEAT. 8 by the template 'for every input the law returns true; each argument reads behind the call as it read before'; 0 by the template 'total and deterministic' (their statements: YtnndacflpmhlkaaTotals.lean).
  GIVEN WITH THE SEED: the statements are not yours to turn. If you find one false, say at which input.
  Laid BY PROGRAM, IN A SANDBOX (cutbox-rows.mjs): the forced cells as the released guide's own fill.sh prints them over the translation 113fb9ec0247bafc… (all of the seat's roots in one cut). By AI agents, Wed Nov 11 2026. No macro, syntax, notation, axiom, sorry.
-/
import Derived.Test.YtnndacflpmhlkaaChecked
import GoSem.Claim
import GoSem.ClaimJoined
import GoSem.ClaimMapViews
import Derived.JoinedTies
import Derived.KernelRfl
namespace Go.Proofs.Ytnndacflpmhlkaa
/- THE CELL 'sum', in the pinned program and in every row, IS THE sha256 OF THE DUMP (.gsa) THAT YtnndacflpmhlkaaProg.lean LOADS. Nothing in Lean hashes anything: it is a label: what it is worth is what the hold of that sum in a sandbox is worth. -/
noncomputable def Try.pinned : Pinned := { name := "ytnndacflpmhlkaa", sum := "113fb9ec0247bafc69196881fabf1f7e6a12081868190becebff95ef29d4ff25", checked := Try.checked }
namespace Rows
def none {H : Type} : Left H := { results := [], args := [] }

/-- 'taximeterlaw05.RealPicks': WHATEVER THE INPUT: true; the input reads as it did. -/
def realPicksSpec : ChangeSpec := { name := "realPicks", fn := fun _ => fun
  | [d1, d2, d3] => { results := [.lit (.bool true)], args := [d1, d2, d3] }
  | _ => none }
def realPicksRow : OpenClaim := { program := "ytnndacflpmhlkaa", sum := "113fb9ec0247bafc69196881fabf1f7e6a12081868190becebff95ef29d4ff25", func := "taximeter/taximeterlaw05.RealPicks", spec := "realPicks", inPlace := ["math.Float64frombits", "math.Float64bits"], plainKeys := false, apart := false }
def RealPicksSaid : Prop := realPicksRow.holds Try.pinned (OpenSpec.ofChange realPicksSpec)

/-- ITS FALSE NEIGHBOUR: 'it returns false'. Refute it at one input. -/
def realPicksWrong : ChangeSpec := { name := "realPicks", fn := fun _ => fun
  | [d1, d2, d3] => { results := [.lit (.bool false)], args := [d1, d2, d3] }
  | _ => none }
def RealPicksWrongFalsely : Prop := realPicksRow.holds Try.pinned (OpenSpec.ofChange realPicksWrong)

/-- 'taximeterlaw05.RealOrder': WHATEVER THE INPUT: true; the input reads as it did. -/
def realOrderSpec : ChangeSpec := { name := "realOrder", fn := fun _ => fun
  | [d1, d2] => { results := [.lit (.bool true)], args := [d1, d2] }
  | _ => none }
def realOrderRow : OpenClaim := { program := "ytnndacflpmhlkaa", sum := "113fb9ec0247bafc69196881fabf1f7e6a12081868190becebff95ef29d4ff25", func := "taximeter/taximeterlaw05.RealOrder", spec := "realOrder", inPlace := ["math.Float64frombits", "math.Float64bits"], plainKeys := false, apart := false }
def RealOrderSaid : Prop := realOrderRow.holds Try.pinned (OpenSpec.ofChange realOrderSpec)

/-- ITS FALSE NEIGHBOUR: 'it returns false'. Refute it at one input. -/
def realOrderWrong : ChangeSpec := { name := "realOrder", fn := fun _ => fun
  | [d1, d2] => { results := [.lit (.bool false)], args := [d1, d2] }
  | _ => none }
def RealOrderWrongFalsely : Prop := realOrderRow.holds Try.pinned (OpenSpec.ofChange realOrderWrong)

/-- 'taximeterlaw05.RealClasses': WHATEVER THE INPUT: true; the input reads as it did. -/
def realClassesSpec : ChangeSpec := { name := "realClasses", fn := fun _ => fun
  | [d] => { results := [.lit (.bool true)], args := [d] }
  | _ => none }
def realClassesRow : OpenClaim := { program := "ytnndacflpmhlkaa", sum := "113fb9ec0247bafc69196881fabf1f7e6a12081868190becebff95ef29d4ff25", func := "taximeter/taximeterlaw05.RealClasses", spec := "realClasses", inPlace := ["math.Float64frombits", "math.Float64bits"], plainKeys := false, apart := false }
def RealClassesSaid : Prop := realClassesRow.holds Try.pinned (OpenSpec.ofChange realClassesSpec)

/-- ITS FALSE NEIGHBOUR: 'it returns false'. Refute it at one input. -/
def realClassesWrong : ChangeSpec := { name := "realClasses", fn := fun _ => fun
  | [d] => { results := [.lit (.bool false)], args := [d] }
  | _ => none }
def RealClassesWrongFalsely : Prop := realClassesRow.holds Try.pinned (OpenSpec.ofChange realClassesWrong)

/-- 'taximeterlaw37.GhostApart': WHATEVER THE INPUT: true; the input reads as it did. -/
def ghostApartSpec : ChangeSpec := { name := "ghostApart", fn := fun _ => fun
  | [d1, d2, d3] => { results := [.lit (.bool true)], args := [d1, d2, d3] }
  | _ => none }
def ghostApartRow : OpenClaim := { program := "ytnndacflpmhlkaa", sum := "113fb9ec0247bafc69196881fabf1f7e6a12081868190becebff95ef29d4ff25", func := "taximeter/taximeterlaw37.GhostApart", spec := "ghostApart", inPlace := ["slices.overlaps[taximeter/api.Ghost]"], unfollowed := true, recurses := true, plainKeys := false, apart := false }
def GhostApartSaid : Prop := ghostApartRow.holds Try.pinned (OpenSpec.ofChange ghostApartSpec)

/-- ITS FALSE NEIGHBOUR: 'it returns false'. Refute it at one input. -/
def ghostApartWrong : ChangeSpec := { name := "ghostApart", fn := fun _ => fun
  | [d1, d2, d3] => { results := [.lit (.bool false)], args := [d1, d2, d3] }
  | _ => none }
def GhostApartWrongFalsely : Prop := ghostApartRow.holds Try.pinned (OpenSpec.ofChange ghostApartWrong)

/-- 'taximeterlaw29.IdleTells': WHATEVER THE INPUT: true; the input reads as it did. -/
def idleTellsSpec : ChangeSpec := { name := "idleTells", fn := fun _ => fun
  | [d] => { results := [.lit (.bool true)], args := [d] }
  | _ => none }
def idleTellsRow : OpenClaim := { program := "ytnndacflpmhlkaa", sum := "113fb9ec0247bafc69196881fabf1f7e6a12081868190becebff95ef29d4ff25", func := "taximeter/taximeterlaw29.IdleTells", spec := "idleTells", unfollowed := true, recurses := true, plainKeys := false, apart := false }
def IdleTellsSaid : Prop := idleTellsRow.holds Try.pinned (OpenSpec.ofChange idleTellsSpec)

/-- ITS FALSE NEIGHBOUR: 'it returns false'. Refute it at one input. -/
def idleTellsWrong : ChangeSpec := { name := "idleTells", fn := fun _ => fun
  | [d] => { results := [.lit (.bool false)], args := [d] }
  | _ => none }
def IdleTellsWrongFalsely : Prop := idleTellsRow.holds Try.pinned (OpenSpec.ofChange idleTellsWrong)

/-- 'taximeterlaw29.IdleOften': WHATEVER THE INPUT: true; the input reads as it did. -/
def idleOftenSpec : ChangeSpec := { name := "idleOften", fn := fun _ => fun
  | [d1, d2, d3] => { results := [.lit (.bool true)], args := [d1, d2, d3] }
  | _ => none }
def idleOftenRow : OpenClaim := { program := "ytnndacflpmhlkaa", sum := "113fb9ec0247bafc69196881fabf1f7e6a12081868190becebff95ef29d4ff25", func := "taximeter/taximeterlaw29.IdleOften", spec := "idleOften", unfollowed := true, recurses := true, plainKeys := false, apart := false }
def IdleOftenSaid : Prop := idleOftenRow.holds Try.pinned (OpenSpec.ofChange idleOftenSpec)

/-- ITS FALSE NEIGHBOUR: 'it returns false'. Refute it at one input. -/
def idleOftenWrong : ChangeSpec := { name := "idleOften", fn := fun _ => fun
  | [d1, d2, d3] => { results := [.lit (.bool false)], args := [d1, d2, d3] }
  | _ => none }
def IdleOftenWrongFalsely : Prop := idleOftenRow.holds Try.pinned (OpenSpec.ofChange idleOftenWrong)

/-- 'taximeterlaw30.ShareChooses': WHATEVER THE INPUT: true; the input reads as it did. -/
def shareChoosesSpec : ChangeSpec := { name := "shareChooses", fn := fun _ => fun
  | [d1, d2] => { results := [.lit (.bool true)], args := [d1, d2] }
  | _ => none }
def shareChoosesRow : OpenClaim := { program := "ytnndacflpmhlkaa", sum := "113fb9ec0247bafc69196881fabf1f7e6a12081868190becebff95ef29d4ff25", func := "taximeter/taximeterlaw30.ShareChooses", spec := "shareChooses", inPlace := ["math.Float64frombits", "math.Float64bits"], unfollowed := true, recurses := true, plainKeys := false, apart := false }
def ShareChoosesSaid : Prop := shareChoosesRow.holds Try.pinned (OpenSpec.ofChange shareChoosesSpec)

/-- ITS FALSE NEIGHBOUR: 'it returns false'. Refute it at one input. -/
def shareChoosesWrong : ChangeSpec := { name := "shareChooses", fn := fun _ => fun
  | [d1, d2] => { results := [.lit (.bool false)], args := [d1, d2] }
  | _ => none }
def ShareChoosesWrongFalsely : Prop := shareChoosesRow.holds Try.pinned (OpenSpec.ofChange shareChoosesWrong)

/-- 'taximeterlaw30.ShareSpreads': WHATEVER THE INPUT: true; the input reads as it did. -/
def shareSpreadsSpec : ChangeSpec := { name := "shareSpreads", fn := fun _ => fun
  | [d1, d2] => { results := [.lit (.bool true)], args := [d1, d2] }
  | _ => none }
def shareSpreadsRow : OpenClaim := { program := "ytnndacflpmhlkaa", sum := "113fb9ec0247bafc69196881fabf1f7e6a12081868190becebff95ef29d4ff25", func := "taximeter/taximeterlaw30.ShareSpreads", spec := "shareSpreads", inPlace := ["math.Float64frombits", "math.Float64bits"], unfollowed := true, recurses := true, plainKeys := false, apart := false }
def ShareSpreadsSaid : Prop := shareSpreadsRow.holds Try.pinned (OpenSpec.ofChange shareSpreadsSpec)

/-- ITS FALSE NEIGHBOUR: 'it returns false'. Refute it at one input. -/
def shareSpreadsWrong : ChangeSpec := { name := "shareSpreads", fn := fun _ => fun
  | [d1, d2] => { results := [.lit (.bool false)], args := [d1, d2] }
  | _ => none }
def ShareSpreadsWrongFalsely : Prop := shareSpreadsRow.holds Try.pinned (OpenSpec.ofChange shareSpreadsWrong)

/- THE SECOND FORM. 'bulk': how many values and letters a reading holds, each counted each time it is reached (what is shared counts as often as it is met; a slice's spare places count too). A statement '..UptoSaid' is the law's where the arguments, and the package variables that the reading takes, are together of bulk at most 1048576: NARROWER than '..Said'. Prove '..Said' where nothing that the law and all that it calls make is longer than what came in: it says more and counts as full. Else prove '..UptoSaid'. A law counts once. -/
mutual
def uptoBulk {H : Type} : DataW H → Nat
  | .lit (.string bytes) => bytes.length + 1
  | .lit _ => 1
  | .nil => 1
  | .ptr d => uptoBulk d + 1
  | .slice elems spare => uptoBulkAll elems + uptoBulkAll spare + 1
  | .agg parts => uptoBulkAll parts + 1
  | .iface _ d => uptoBulk d + 1
  | .map entries => uptoBulkEntries entries + 1
  | .held _ => 1
def uptoBulkAll {H : Type} : List (DataW H) → Nat
  | [] => 0
  | d :: r => uptoBulk d + uptoBulkAll r
def uptoBulkEntries {H : Type} : List (Lit × DataW H) → Nat
  | [] => 0
  | x :: r => uptoBulkEntry x + uptoBulkEntries r
def uptoBulkEntry {H : Type} : Lit × DataW H → Nat
  | (.string bytes, d) => bytes.length + uptoBulk d + 1
  | (_, d) => uptoBulk d + 1
 end
def uptoSmall : (H : Type) → List (DataW H) → Bool := fun _ ds => decide (uptoBulkAll ds ≤ 1048576)
def OpenSpec.upto (s : _root_.Go.ChangeSpec) : _root_.Go.OpenSpec := { _root_.Go.OpenSpec.ofChange s with cond := some uptoSmall }

/-- 'taximeterlaw05.RealPicks', WHERE WHAT IT READS IS OF BULK AT MOST 1048576: true; the input reads as it did. -/
def realPicksUptoRow : OpenClaim := { program := "ytnndacflpmhlkaa", sum := "113fb9ec0247bafc69196881fabf1f7e6a12081868190becebff95ef29d4ff25", func := "taximeter/taximeterlaw05.RealPicks", spec := "realPicks", inPlace := ["math.Float64frombits", "math.Float64bits"], plainKeys := false, apart := false, narrowed := true }
def RealPicksUptoSaid : Prop := realPicksUptoRow.holds Try.pinned (OpenSpec.upto realPicksSpec)

/-- 'taximeterlaw05.RealOrder', WHERE WHAT IT READS IS OF BULK AT MOST 1048576: true; the input reads as it did. -/
def realOrderUptoRow : OpenClaim := { program := "ytnndacflpmhlkaa", sum := "113fb9ec0247bafc69196881fabf1f7e6a12081868190becebff95ef29d4ff25", func := "taximeter/taximeterlaw05.RealOrder", spec := "realOrder", inPlace := ["math.Float64frombits", "math.Float64bits"], plainKeys := false, apart := false, narrowed := true }
def RealOrderUptoSaid : Prop := realOrderUptoRow.holds Try.pinned (OpenSpec.upto realOrderSpec)

/-- 'taximeterlaw05.RealClasses', WHERE WHAT IT READS IS OF BULK AT MOST 1048576: true; the input reads as it did. -/
def realClassesUptoRow : OpenClaim := { program := "ytnndacflpmhlkaa", sum := "113fb9ec0247bafc69196881fabf1f7e6a12081868190becebff95ef29d4ff25", func := "taximeter/taximeterlaw05.RealClasses", spec := "realClasses", inPlace := ["math.Float64frombits", "math.Float64bits"], plainKeys := false, apart := false, narrowed := true }
def RealClassesUptoSaid : Prop := realClassesUptoRow.holds Try.pinned (OpenSpec.upto realClassesSpec)

/-- 'taximeterlaw37.GhostApart', WHERE WHAT IT READS IS OF BULK AT MOST 1048576: true; the input reads as it did. -/
def ghostApartUptoRow : OpenClaim := { program := "ytnndacflpmhlkaa", sum := "113fb9ec0247bafc69196881fabf1f7e6a12081868190becebff95ef29d4ff25", func := "taximeter/taximeterlaw37.GhostApart", spec := "ghostApart", inPlace := ["slices.overlaps[taximeter/api.Ghost]"], unfollowed := true, recurses := true, plainKeys := false, apart := false, narrowed := true }
def GhostApartUptoSaid : Prop := ghostApartUptoRow.holds Try.pinned (OpenSpec.upto ghostApartSpec)

/-- 'taximeterlaw29.IdleTells', WHERE WHAT IT READS IS OF BULK AT MOST 1048576: true; the input reads as it did. -/
def idleTellsUptoRow : OpenClaim := { program := "ytnndacflpmhlkaa", sum := "113fb9ec0247bafc69196881fabf1f7e6a12081868190becebff95ef29d4ff25", func := "taximeter/taximeterlaw29.IdleTells", spec := "idleTells", unfollowed := true, recurses := true, plainKeys := false, apart := false, narrowed := true }
def IdleTellsUptoSaid : Prop := idleTellsUptoRow.holds Try.pinned (OpenSpec.upto idleTellsSpec)

/-- 'taximeterlaw29.IdleOften', WHERE WHAT IT READS IS OF BULK AT MOST 1048576: true; the input reads as it did. -/
def idleOftenUptoRow : OpenClaim := { program := "ytnndacflpmhlkaa", sum := "113fb9ec0247bafc69196881fabf1f7e6a12081868190becebff95ef29d4ff25", func := "taximeter/taximeterlaw29.IdleOften", spec := "idleOften", unfollowed := true, recurses := true, plainKeys := false, apart := false, narrowed := true }
def IdleOftenUptoSaid : Prop := idleOftenUptoRow.holds Try.pinned (OpenSpec.upto idleOftenSpec)

/-- 'taximeterlaw30.ShareChooses', WHERE WHAT IT READS IS OF BULK AT MOST 1048576: true; the input reads as it did. -/
def shareChoosesUptoRow : OpenClaim := { program := "ytnndacflpmhlkaa", sum := "113fb9ec0247bafc69196881fabf1f7e6a12081868190becebff95ef29d4ff25", func := "taximeter/taximeterlaw30.ShareChooses", spec := "shareChooses", inPlace := ["math.Float64frombits", "math.Float64bits"], unfollowed := true, recurses := true, plainKeys := false, apart := false, narrowed := true }
def ShareChoosesUptoSaid : Prop := shareChoosesUptoRow.holds Try.pinned (OpenSpec.upto shareChoosesSpec)

/-- 'taximeterlaw30.ShareSpreads', WHERE WHAT IT READS IS OF BULK AT MOST 1048576: true; the input reads as it did. -/
def shareSpreadsUptoRow : OpenClaim := { program := "ytnndacflpmhlkaa", sum := "113fb9ec0247bafc69196881fabf1f7e6a12081868190becebff95ef29d4ff25", func := "taximeter/taximeterlaw30.ShareSpreads", spec := "shareSpreads", inPlace := ["math.Float64frombits", "math.Float64bits"], unfollowed := true, recurses := true, plainKeys := false, apart := false, narrowed := true }
def ShareSpreadsUptoSaid : Prop := shareSpreadsUptoRow.holds Try.pinned (OpenSpec.upto shareSpreadsSpec)

end Rows
end Go.Proofs.Ytnndacflpmhlkaa
