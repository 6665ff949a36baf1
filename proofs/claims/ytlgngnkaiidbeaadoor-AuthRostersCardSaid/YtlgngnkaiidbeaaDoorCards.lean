/-
  DERIVED. GIVEN WITH THE SEED: THE CARDS: each row of YtlgngnkaiidbeaaDoorRows.lean that lists a variable, with what it lists TIED to the program's text (the seventh form; the later family's looks); each row that meets fmt, with fmt's text TOLD by the authors' own Lean function (tested against real Go, not proved from fmt's source: count such statements apart). THE CARD IS WHAT COUNTS. Prove the row's statement (the work); the ties are given (YtlgngnkaiidbeaaDoorTie.lean); close each card by the builder's one call (the guide's Derived/Test/ToyasCard.lean, 'card_holds'). Laid BY PROGRAM, IN A SANDBOX (cutbox-door.mjs). By AI agents, Wed Nov 11 2026. No macro, syntax, notation, axiom, sorry.
-/
import Derived.Test.YtlgngnkaiidbeaaDoorRows
import GoSem.ClaimSeven
namespace Go.Proofs.YtlgngnkaiidbeaaDoor
namespace Rows

/-- THE TIED CARD OF 'taximeterlaw23.AuthHellos'. -/
def authHellosCard : Claim7 := { stood := { row := authHellosRow, standIns := [], harness := (true, "5bc0cf1413384d5e7ff19ca5184b4bb72b5c08cbe273300f3f495aea46a1bd50"), looks := false }, kinds := [], alts := [], laidByText := true, laidKinds := [.data], laidTests := true, laidLooks := .later }
def AuthHellosCardSaid : Prop := Claim7.holds Tryd.pinned (.plain (OpenSpec.ofChange authHellosSpec)) authHellosCard

/-- THE TIED CARD OF 'taximeterlaw23.AuthRosters'. -/
def authRostersCard : Claim7 := { stood := { row := authRostersRow, standIns := [], harness := (true, "5bc0cf1413384d5e7ff19ca5184b4bb72b5c08cbe273300f3f495aea46a1bd50"), looks := false }, kinds := [], alts := [], laidByText := true, laidKinds := [.data], laidTests := true, laidLooks := .later }
def AuthRostersCardSaid : Prop := Claim7.holds Tryd.pinned (.plain (OpenSpec.ofChange authRostersSpec)) authRostersCard

/-- THE SECOND FORM's CARD OF 'taximeterlaw23.AuthHellos'. -/
def authHellosUptoCard : Claim7 := { stood := { row := authHellosUptoRow, standIns := [], harness := (true, "5bc0cf1413384d5e7ff19ca5184b4bb72b5c08cbe273300f3f495aea46a1bd50"), looks := false }, kinds := [], alts := [], laidByText := true, laidKinds := [.data], laidTests := true, laidLooks := .later }
def AuthHellosUptoCardSaid : Prop := Claim7.holds Tryd.pinned (.plain (OpenSpec.upto authHellosSpec)) authHellosUptoCard

/-- THE SECOND FORM's CARD OF 'taximeterlaw23.AuthRosters'. -/
def authRostersUptoCard : Claim7 := { stood := { row := authRostersUptoRow, standIns := [], harness := (true, "5bc0cf1413384d5e7ff19ca5184b4bb72b5c08cbe273300f3f495aea46a1bd50"), looks := false }, kinds := [], alts := [], laidByText := true, laidKinds := [.data], laidTests := true, laidLooks := .later }
def AuthRostersUptoCardSaid : Prop := Claim7.holds Tryd.pinned (.plain (OpenSpec.upto authRostersSpec)) authRostersUptoCard
end Rows
end Go.Proofs.YtlgngnkaiidbeaaDoor
