/-
  No cell of these rows narrows 'for every input' (looked for: loops, veiled, ifaces, maps, wideKeys, modest, calm, conditions, laid).
  DERIVED. THE GIVEN ROWS OF THIS SEAT. 10 by the template 'for every input the law returns true; each argument reads behind the call as it read before'; 0 by the template 'total and deterministic' (their statements: YtlgngnkaiidbeaaTotals.lean).
  GIVEN WITH THE SEED: the statements are not yours to turn. If you find one false, say at which input.
  Laid BY PROGRAM, IN A SANDBOX (cutbox-rows.mjs): the forced cells as the released guide's own fill.sh prints them over the translation dbf8c031cace5af6… (all of the seat's roots in one cut). By AI agents, Wed Nov 11 2026. No macro, syntax, notation, axiom, sorry.
-/
import Derived.Test.YtlgngnkaiidbeaaChecked
import GoSem.Claim
import GoSem.ClaimJoined
import GoSem.ClaimMapViews
import Derived.JoinedTies
import Derived.KernelRfl
namespace Go.Proofs.Ytlgngnkaiidbeaa
/- THE CELL 'sum', in the pinned program and in every row, IS THE sha256 OF THE DUMP (.gsa) THAT YtlgngnkaiidbeaaProg.lean LOADS. Nothing in Lean hashes anything: it is a label: what it is worth is what the hold of that sum in a sandbox is worth. -/
noncomputable def Try.pinned : Pinned := { name := "ytlgngnkaiidbeaa", sum := "dbf8c031cace5af61dfc0ffb9aabd2c0f020f96f681386229d38b04bdfe34af9", checked := Try.checked }
namespace Rows
def none {H : Type} : Left H := { results := [], args := [] }

/-- 'taximeterlaw28.TargetTells': WHATEVER THE INPUT: true; the input reads as it did. -/
def targetTellsSpec : ChangeSpec := { name := "targetTells", fn := fun _ => fun
  | [d] => { results := [.lit (.bool true)], args := [d] }
  | _ => none }
def targetTellsRow : OpenClaim := { program := "ytlgngnkaiidbeaa", sum := "dbf8c031cace5af61dfc0ffb9aabd2c0f020f96f681386229d38b04bdfe34af9", func := "taximeter/taximeterlaw28.TargetTells", spec := "targetTells", plainKeys := false, apart := false }
def TargetTellsSaid : Prop := targetTellsRow.holds Try.pinned (OpenSpec.ofChange targetTellsSpec)

/-- ITS FALSE NEIGHBOUR: 'it returns false'. Refute it at one input. -/
def targetTellsWrong : ChangeSpec := { name := "targetTells", fn := fun _ => fun
  | [d] => { results := [.lit (.bool false)], args := [d] }
  | _ => none }
def TargetTellsWrongFalsely : Prop := targetTellsRow.holds Try.pinned (OpenSpec.ofChange targetTellsWrong)

/-- 'taximeterlaw28.TargetNobody': WHATEVER THE INPUT: true; the input reads as it did. -/
def targetNobodySpec : ChangeSpec := { name := "targetNobody", fn := fun _ => fun
  | [d] => { results := [.lit (.bool true)], args := [d] }
  | _ => none }
def targetNobodyRow : OpenClaim := { program := "ytlgngnkaiidbeaa", sum := "dbf8c031cace5af61dfc0ffb9aabd2c0f020f96f681386229d38b04bdfe34af9", func := "taximeter/taximeterlaw28.TargetNobody", spec := "targetNobody", plainKeys := false, apart := false }
def TargetNobodySaid : Prop := targetNobodyRow.holds Try.pinned (OpenSpec.ofChange targetNobodySpec)

/-- ITS FALSE NEIGHBOUR: 'it returns false'. Refute it at one input. -/
def targetNobodyWrong : ChangeSpec := { name := "targetNobody", fn := fun _ => fun
  | [d] => { results := [.lit (.bool false)], args := [d] }
  | _ => none }
def TargetNobodyWrongFalsely : Prop := targetNobodyRow.holds Try.pinned (OpenSpec.ofChange targetNobodyWrong)

/-- 'taximeterlaw05.RealPicks': WHATEVER THE INPUT: true; the input reads as it did. -/
def realPicksSpec : ChangeSpec := { name := "realPicks", fn := fun _ => fun
  | [d1, d2, d3] => { results := [.lit (.bool true)], args := [d1, d2, d3] }
  | _ => none }
def realPicksRow : OpenClaim := { program := "ytlgngnkaiidbeaa", sum := "dbf8c031cace5af61dfc0ffb9aabd2c0f020f96f681386229d38b04bdfe34af9", func := "taximeter/taximeterlaw05.RealPicks", spec := "realPicks", inPlace := ["math.Float64frombits", "math.Float64bits"], plainKeys := false, apart := false }
def RealPicksSaid : Prop := realPicksRow.holds Try.pinned (OpenSpec.ofChange realPicksSpec)

/-- ITS FALSE NEIGHBOUR: 'it returns false'. Refute it at one input. -/
def realPicksWrong : ChangeSpec := { name := "realPicks", fn := fun _ => fun
  | [d1, d2, d3] => { results := [.lit (.bool false)], args := [d1, d2, d3] }
  | _ => none }
def RealPicksWrongFalsely : Prop := realPicksRow.holds Try.pinned (OpenSpec.ofChange realPicksWrong)

/-- 'taximeterlaw37.GhostApart': WHATEVER THE INPUT: true; the input reads as it did. -/
def ghostApartSpec : ChangeSpec := { name := "ghostApart", fn := fun _ => fun
  | [d1, d2, d3] => { results := [.lit (.bool true)], args := [d1, d2, d3] }
  | _ => none }
def ghostApartRow : OpenClaim := { program := "ytlgngnkaiidbeaa", sum := "dbf8c031cace5af61dfc0ffb9aabd2c0f020f96f681386229d38b04bdfe34af9", func := "taximeter/taximeterlaw37.GhostApart", spec := "ghostApart", inPlace := ["slices.overlaps[taximeter/api.Ghost]"], unfollowed := true, recurses := true, plainKeys := false, apart := false }
def GhostApartSaid : Prop := ghostApartRow.holds Try.pinned (OpenSpec.ofChange ghostApartSpec)

/-- ITS FALSE NEIGHBOUR: 'it returns false'. Refute it at one input. -/
def ghostApartWrong : ChangeSpec := { name := "ghostApart", fn := fun _ => fun
  | [d1, d2, d3] => { results := [.lit (.bool false)], args := [d1, d2, d3] }
  | _ => none }
def GhostApartWrongFalsely : Prop := ghostApartRow.holds Try.pinned (OpenSpec.ofChange ghostApartWrong)

/-- 'taximeterlaw22.FeedCuts': WHATEVER THE INPUT: true; the input reads as it did. -/
def feedCutsSpec : ChangeSpec := { name := "feedCuts", fn := fun _ => fun
  | [d1, d2, d3] => { results := [.lit (.bool true)], args := [d1, d2, d3] }
  | _ => none }
def feedCutsRow : OpenClaim := { program := "ytlgngnkaiidbeaa", sum := "dbf8c031cace5af61dfc0ffb9aabd2c0f020f96f681386229d38b04bdfe34af9", func := "taximeter/taximeterlaw22.FeedCuts", spec := "feedCuts", unfollowed := true, recurses := true, plainKeys := false, apart := false }
def FeedCutsSaid : Prop := feedCutsRow.holds Try.pinned (OpenSpec.ofChange feedCutsSpec)

/-- ITS FALSE NEIGHBOUR: 'it returns false'. Refute it at one input. -/
def feedCutsWrong : ChangeSpec := { name := "feedCuts", fn := fun _ => fun
  | [d1, d2, d3] => { results := [.lit (.bool false)], args := [d1, d2, d3] }
  | _ => none }
def FeedCutsWrongFalsely : Prop := feedCutsRow.holds Try.pinned (OpenSpec.ofChange feedCutsWrong)

/-- 'taximeterlaw22.FeedBack': WHATEVER THE INPUT: true; the input reads as it did. -/
def feedBackSpec : ChangeSpec := { name := "feedBack", fn := fun _ => fun
  | [d1, d2] => { results := [.lit (.bool true)], args := [d1, d2] }
  | _ => none }
def feedBackRow : OpenClaim := { program := "ytlgngnkaiidbeaa", sum := "dbf8c031cace5af61dfc0ffb9aabd2c0f020f96f681386229d38b04bdfe34af9", func := "taximeter/taximeterlaw22.FeedBack", spec := "feedBack", unfollowed := true, recurses := true, plainKeys := false, apart := false }
def FeedBackSaid : Prop := feedBackRow.holds Try.pinned (OpenSpec.ofChange feedBackSpec)

/-- ITS FALSE NEIGHBOUR: 'it returns false'. Refute it at one input. -/
def feedBackWrong : ChangeSpec := { name := "feedBack", fn := fun _ => fun
  | [d1, d2] => { results := [.lit (.bool false)], args := [d1, d2] }
  | _ => none }
def FeedBackWrongFalsely : Prop := feedBackRow.holds Try.pinned (OpenSpec.ofChange feedBackWrong)

/-- 'taximeterlaw29.IdleTells': WHATEVER THE INPUT: true; the input reads as it did. -/
def idleTellsSpec : ChangeSpec := { name := "idleTells", fn := fun _ => fun
  | [d] => { results := [.lit (.bool true)], args := [d] }
  | _ => none }
def idleTellsRow : OpenClaim := { program := "ytlgngnkaiidbeaa", sum := "dbf8c031cace5af61dfc0ffb9aabd2c0f020f96f681386229d38b04bdfe34af9", func := "taximeter/taximeterlaw29.IdleTells", spec := "idleTells", unfollowed := true, recurses := true, plainKeys := false, apart := false }
def IdleTellsSaid : Prop := idleTellsRow.holds Try.pinned (OpenSpec.ofChange idleTellsSpec)

/-- ITS FALSE NEIGHBOUR: 'it returns false'. Refute it at one input. -/
def idleTellsWrong : ChangeSpec := { name := "idleTells", fn := fun _ => fun
  | [d] => { results := [.lit (.bool false)], args := [d] }
  | _ => none }
def IdleTellsWrongFalsely : Prop := idleTellsRow.holds Try.pinned (OpenSpec.ofChange idleTellsWrong)

/-- 'taximeterlaw29.IdleOften': WHATEVER THE INPUT: true; the input reads as it did. -/
def idleOftenSpec : ChangeSpec := { name := "idleOften", fn := fun _ => fun
  | [d1, d2, d3] => { results := [.lit (.bool true)], args := [d1, d2, d3] }
  | _ => none }
def idleOftenRow : OpenClaim := { program := "ytlgngnkaiidbeaa", sum := "dbf8c031cace5af61dfc0ffb9aabd2c0f020f96f681386229d38b04bdfe34af9", func := "taximeter/taximeterlaw29.IdleOften", spec := "idleOften", unfollowed := true, recurses := true, plainKeys := false, apart := false }
def IdleOftenSaid : Prop := idleOftenRow.holds Try.pinned (OpenSpec.ofChange idleOftenSpec)

/-- ITS FALSE NEIGHBOUR: 'it returns false'. Refute it at one input. -/
def idleOftenWrong : ChangeSpec := { name := "idleOften", fn := fun _ => fun
  | [d1, d2, d3] => { results := [.lit (.bool false)], args := [d1, d2, d3] }
  | _ => none }
def IdleOftenWrongFalsely : Prop := idleOftenRow.holds Try.pinned (OpenSpec.ofChange idleOftenWrong)

/-- 'taximeterlaw30.ShareChooses': WHATEVER THE INPUT: true; the input reads as it did. -/
def shareChoosesSpec : ChangeSpec := { name := "shareChooses", fn := fun _ => fun
  | [d1, d2] => { results := [.lit (.bool true)], args := [d1, d2] }
  | _ => none }
def shareChoosesRow : OpenClaim := { program := "ytlgngnkaiidbeaa", sum := "dbf8c031cace5af61dfc0ffb9aabd2c0f020f96f681386229d38b04bdfe34af9", func := "taximeter/taximeterlaw30.ShareChooses", spec := "shareChooses", inPlace := ["math.Float64frombits", "math.Float64bits"], unfollowed := true, recurses := true, plainKeys := false, apart := false }
def ShareChoosesSaid : Prop := shareChoosesRow.holds Try.pinned (OpenSpec.ofChange shareChoosesSpec)

/-- ITS FALSE NEIGHBOUR: 'it returns false'. Refute it at one input. -/
def shareChoosesWrong : ChangeSpec := { name := "shareChooses", fn := fun _ => fun
  | [d1, d2] => { results := [.lit (.bool false)], args := [d1, d2] }
  | _ => none }
def ShareChoosesWrongFalsely : Prop := shareChoosesRow.holds Try.pinned (OpenSpec.ofChange shareChoosesWrong)

/-- 'taximeterlaw30.ShareSpreads': WHATEVER THE INPUT: true; the input reads as it did. -/
def shareSpreadsSpec : ChangeSpec := { name := "shareSpreads", fn := fun _ => fun
  | [d1, d2] => { results := [.lit (.bool true)], args := [d1, d2] }
  | _ => none }
def shareSpreadsRow : OpenClaim := { program := "ytlgngnkaiidbeaa", sum := "dbf8c031cace5af61dfc0ffb9aabd2c0f020f96f681386229d38b04bdfe34af9", func := "taximeter/taximeterlaw30.ShareSpreads", spec := "shareSpreads", inPlace := ["math.Float64frombits", "math.Float64bits"], unfollowed := true, recurses := true, plainKeys := false, apart := false }
def ShareSpreadsSaid : Prop := shareSpreadsRow.holds Try.pinned (OpenSpec.ofChange shareSpreadsSpec)

/-- ITS FALSE NEIGHBOUR: 'it returns false'. Refute it at one input. -/
def shareSpreadsWrong : ChangeSpec := { name := "shareSpreads", fn := fun _ => fun
  | [d1, d2] => { results := [.lit (.bool false)], args := [d1, d2] }
  | _ => none }
def ShareSpreadsWrongFalsely : Prop := shareSpreadsRow.holds Try.pinned (OpenSpec.ofChange shareSpreadsWrong)

/- THE SECOND FORM. 'bulk': how many values and letters a reading holds, each counted each time it is reached (what is shared counts as often as it is met; a slice's spare places count too). A statement '..UptoSaid' is the law's where the arguments, and the package variables that the reading takes, are together of bulk at most 1048576: NARROWER than '..Said'. Prove '..Said' where nothing that the law and all that it calls make is longer than what came in: it says more and counts as full. Else prove '..UptoSaid'. A law counts once. -/
mutual
def uptoBulk {H : Type} : DataW H → Nat
  | .lit (.string bytes) => bytes.length + 1
  | .lit _ => 1
  | .nil => 1
  | .ptr d => uptoBulk d + 1
  | .slice elems spare => uptoBulkAll elems + uptoBulkAll spare + 1
  | .agg parts => uptoBulkAll parts + 1
  | .iface _ d => uptoBulk d + 1
  | .map entries => uptoBulkEntries entries + 1
  | .held _ => 1
def uptoBulkAll {H : Type} : List (DataW H) → Nat
  | [] => 0
  | d :: r => uptoBulk d + uptoBulkAll r
def uptoBulkEntries {H : Type} : List (Lit × DataW H) → Nat
  | [] => 0
  | x :: r => uptoBulkEntry x + uptoBulkEntries r
def uptoBulkEntry {H : Type} : Lit × DataW H → Nat
  | (.string bytes, d) => bytes.length + uptoBulk d + 1
  | (_, d) => uptoBulk d + 1
 end
def uptoSmall : (H : Type) → List (DataW H) → Bool := fun _ ds => decide (uptoBulkAll ds ≤ 1048576)
def OpenSpec.upto (s : _root_.Go.ChangeSpec) : _root_.Go.OpenSpec := { _root_.Go.OpenSpec.ofChange s with cond := some uptoSmall }

/-- 'taximeterlaw28.TargetTells', WHERE WHAT IT READS IS OF BULK AT MOST 1048576: true; the input reads as it did. -/
def targetTellsUptoRow : OpenClaim := { program := "ytlgngnkaiidbeaa", sum := "dbf8c031cace5af61dfc0ffb9aabd2c0f020f96f681386229d38b04bdfe34af9", func := "taximeter/taximeterlaw28.TargetTells", spec := "targetTells", plainKeys := false, apart := false, narrowed := true }
def TargetTellsUptoSaid : Prop := targetTellsUptoRow.holds Try.pinned (OpenSpec.upto targetTellsSpec)

/-- 'taximeterlaw28.TargetNobody', WHERE WHAT IT READS IS OF BULK AT MOST 1048576: true; the input reads as it did. -/
def targetNobodyUptoRow : OpenClaim := { program := "ytlgngnkaiidbeaa", sum := "dbf8c031cace5af61dfc0ffb9aabd2c0f020f96f681386229d38b04bdfe34af9", func := "taximeter/taximeterlaw28.TargetNobody", spec := "targetNobody", plainKeys := false, apart := false, narrowed := true }
def TargetNobodyUptoSaid : Prop := targetNobodyUptoRow.holds Try.pinned (OpenSpec.upto targetNobodySpec)

/-- 'taximeterlaw05.RealPicks', WHERE WHAT IT READS IS OF BULK AT MOST 1048576: true; the input reads as it did. -/
def realPicksUptoRow : OpenClaim := { program := "ytlgngnkaiidbeaa", sum := "dbf8c031cace5af61dfc0ffb9aabd2c0f020f96f681386229d38b04bdfe34af9", func := "taximeter/taximeterlaw05.RealPicks", spec := "realPicks", inPlace := ["math.Float64frombits", "math.Float64bits"], plainKeys := false, apart := false, narrowed := true }
def RealPicksUptoSaid : Prop := realPicksUptoRow.holds Try.pinned (OpenSpec.upto realPicksSpec)

/-- 'taximeterlaw37.GhostApart', WHERE WHAT IT READS IS OF BULK AT MOST 1048576: true; the input reads as it did. -/
def ghostApartUptoRow : OpenClaim := { program := "ytlgngnkaiidbeaa", sum := "dbf8c031cace5af61dfc0ffb9aabd2c0f020f96f681386229d38b04bdfe34af9", func := "taximeter/taximeterlaw37.GhostApart", spec := "ghostApart", inPlace := ["slices.overlaps[taximeter/api.Ghost]"], unfollowed := true, recurses := true, plainKeys := false, apart := false, narrowed := true }
def GhostApartUptoSaid : Prop := ghostApartUptoRow.holds Try.pinned (OpenSpec.upto ghostApartSpec)

/-- 'taximeterlaw22.FeedCuts', WHERE WHAT IT READS IS OF BULK AT MOST 1048576: true; the input reads as it did. -/
def feedCutsUptoRow : OpenClaim := { program := "ytlgngnkaiidbeaa", sum := "dbf8c031cace5af61dfc0ffb9aabd2c0f020f96f681386229d38b04bdfe34af9", func := "taximeter/taximeterlaw22.FeedCuts", spec := "feedCuts", unfollowed := true, recurses := true, plainKeys := false, apart := false, narrowed := true }
def FeedCutsUptoSaid : Prop := feedCutsUptoRow.holds Try.pinned (OpenSpec.upto feedCutsSpec)

/-- 'taximeterlaw22.FeedBack', WHERE WHAT IT READS IS OF BULK AT MOST 1048576: true; the input reads as it did. -/
def feedBackUptoRow : OpenClaim := { program := "ytlgngnkaiidbeaa", sum := "dbf8c031cace5af61dfc0ffb9aabd2c0f020f96f681386229d38b04bdfe34af9", func := "taximeter/taximeterlaw22.FeedBack", spec := "feedBack", unfollowed := true, recurses := true, plainKeys := false, apart := false, narrowed := true }
def FeedBackUptoSaid : Prop := feedBackUptoRow.holds Try.pinned (OpenSpec.upto feedBackSpec)

/-- 'taximeterlaw29.IdleTells', WHERE WHAT IT READS IS OF BULK AT MOST 1048576: true; the input reads as it did. -/
def idleTellsUptoRow : OpenClaim := { program := "ytlgngnkaiidbeaa", sum := "dbf8c031cace5af61dfc0ffb9aabd2c0f020f96f681386229d38b04bdfe34af9", func := "taximeter/taximeterlaw29.IdleTells", spec := "idleTells", unfollowed := true, recurses := true, plainKeys := false, apart := false, narrowed := true }
def IdleTellsUptoSaid : Prop := idleTellsUptoRow.holds Try.pinned (OpenSpec.upto idleTellsSpec)

/-- 'taximeterlaw29.IdleOften', WHERE WHAT IT READS IS OF BULK AT MOST 1048576: true; the input reads as it did. -/
def idleOftenUptoRow : OpenClaim := { program := "ytlgngnkaiidbeaa", sum := "dbf8c031cace5af61dfc0ffb9aabd2c0f020f96f681386229d38b04bdfe34af9", func := "taximeter/taximeterlaw29.IdleOften", spec := "idleOften", unfollowed := true, recurses := true, plainKeys := false, apart := false, narrowed := true }
def IdleOftenUptoSaid : Prop := idleOftenUptoRow.holds Try.pinned (OpenSpec.upto idleOftenSpec)

/-- 'taximeterlaw30.ShareChooses', WHERE WHAT IT READS IS OF BULK AT MOST 1048576: true; the input reads as it did. -/
def shareChoosesUptoRow : OpenClaim := { program := "ytlgngnkaiidbeaa", sum := "dbf8c031cace5af61dfc0ffb9aabd2c0f020f96f681386229d38b04bdfe34af9", func := "taximeter/taximeterlaw30.ShareChooses", spec := "shareChooses", inPlace := ["math.Float64frombits", "math.Float64bits"], unfollowed := true, recurses := true, plainKeys := false, apart := false, narrowed := true }
def ShareChoosesUptoSaid : Prop := shareChoosesUptoRow.holds Try.pinned (OpenSpec.upto shareChoosesSpec)

/-- 'taximeterlaw30.ShareSpreads', WHERE WHAT IT READS IS OF BULK AT MOST 1048576: true; the input reads as it did. -/
def shareSpreadsUptoRow : OpenClaim := { program := "ytlgngnkaiidbeaa", sum := "dbf8c031cace5af61dfc0ffb9aabd2c0f020f96f681386229d38b04bdfe34af9", func := "taximeter/taximeterlaw30.ShareSpreads", spec := "shareSpreads", inPlace := ["math.Float64frombits", "math.Float64bits"], unfollowed := true, recurses := true, plainKeys := false, apart := false, narrowed := true }
def ShareSpreadsUptoSaid : Prop := shareSpreadsUptoRow.holds Try.pinned (OpenSpec.upto shareSpreadsSpec)

end Rows
end Go.Proofs.Ytlgngnkaiidbeaa
