/-
  DERIVED. GIVEN WITH THE SEED: THE CARDS: each row of YtkbjnlbbfapgdaaDoorRows.lean that lists a variable, with what it lists TIED to the program's text (the seventh form; the later family's looks); each row that meets fmt, with fmt's text TOLD by the authors' own Lean function (tested against real Go, not proved from fmt's source: count such statements apart). THE CARD IS WHAT COUNTS. Prove the row's statement (the work); the ties are given (YtkbjnlbbfapgdaaDoorTie.lean); close each card by the builder's one call (the guide's Derived/Test/ToyasCard.lean, 'card_holds'). Laid BY PROGRAM, IN A SANDBOX (cutbox-door.mjs). By AI agents, Wed Nov 11 2026. No macro, syntax, notation, axiom, sorry.
-/
import Derived.Test.YtkbjnlbbfapgdaaDoorRows
import GoSem.ClaimSeven
namespace Go.Proofs.YtkbjnlbbfapgdaaDoor
namespace Rows

/-- THE TIED CARD OF 'taximeterlaw15.AcctStays'. -/
def acctStaysCard : Claim7 := { stood := { row := acctStaysRow, standIns := [], harness := (true, "e9a4fb9a9b04808318189cdc0a4693fcdcb16ea39545a60f59a440ef635739fd"), looks := false }, kinds := [], alts := [], laidByText := true, laidKinds := [.data], laidTests := true, laidLooks := .later }
def AcctStaysCardSaid : Prop := Claim7.holds Tryd.pinned (.plain (OpenSpec.ofChange acctStaysSpec)) acctStaysCard

/-- THE TIED CARD OF 'taximeterlaw15.AcctRight'. -/
def acctRightCard : Claim7 := { stood := { row := acctRightRow, standIns := [], harness := (true, "e9a4fb9a9b04808318189cdc0a4693fcdcb16ea39545a60f59a440ef635739fd"), looks := false }, kinds := [], alts := [], laidByText := true, laidKinds := [.data], laidTests := true, laidLooks := .later }
def AcctRightCardSaid : Prop := Claim7.holds Tryd.pinned (.plain (OpenSpec.ofChange acctRightSpec)) acctRightCard

/-- THE TIED CARD OF 'taximeterlaw17.SnapEncodes'. -/
def snapEncodesCard : Claim7 := { stood := { row := snapEncodesRow, standIns := [], harness := (true, "e9a4fb9a9b04808318189cdc0a4693fcdcb16ea39545a60f59a440ef635739fd"), looks := false }, kinds := [], alts := [], laidByText := true, laidKinds := [.data], laidTests := true, laidLooks := .later }
def SnapEncodesCardSaid : Prop := Claim7.holds Tryd.pinned (.plain (OpenSpec.ofChange snapEncodesSpec)) snapEncodesCard

/-- THE TIED CARD OF 'taximeterlaw17.SnapDecodes'. -/
def snapDecodesCard : Claim7 := { stood := { row := snapDecodesRow, standIns := [], harness := (true, "e9a4fb9a9b04808318189cdc0a4693fcdcb16ea39545a60f59a440ef635739fd"), looks := false }, kinds := [], alts := [], laidByText := true, laidKinds := [.data], laidTests := true, laidLooks := .later }
def SnapDecodesCardSaid : Prop := Claim7.holds Tryd.pinned (.plain (OpenSpec.ofChange snapDecodesSpec)) snapDecodesCard

/-- THE TIED CARD OF 'taximeterlaw17.SnapShort'. -/
def snapShortCard : Claim7 := { stood := { row := snapShortRow, standIns := [], harness := (true, "e9a4fb9a9b04808318189cdc0a4693fcdcb16ea39545a60f59a440ef635739fd"), looks := false }, kinds := [], alts := [], laidByText := true, laidKinds := [.data], laidTests := true, laidLooks := .later }
def SnapShortCardSaid : Prop := Claim7.holds Tryd.pinned (.plain (OpenSpec.ofChange snapShortSpec)) snapShortCard

/-- THE TIED CARD OF 'taximeterlaw16.LedgerApplies'. -/
def ledgerAppliesCard : Claim7 := { stood := { row := ledgerAppliesRow, standIns := [], harness := (true, "e9a4fb9a9b04808318189cdc0a4693fcdcb16ea39545a60f59a440ef635739fd"), looks := false }, kinds := [], alts := [], laidByText := true, laidKinds := [.data], laidTests := true, laidLooks := .later }
def LedgerAppliesCardSaid : Prop := Claim7.holds Tryd.pinned (.plain (OpenSpec.ofChange ledgerAppliesSpec)) ledgerAppliesCard

/-- THE TIED CARD OF 'taximeterlaw16.LedgerApart'. -/
def ledgerApartCard : Claim7 := { stood := { row := ledgerApartRow, standIns := [], harness := (true, "e9a4fb9a9b04808318189cdc0a4693fcdcb16ea39545a60f59a440ef635739fd"), looks := false }, kinds := [], alts := [], laidByText := true, laidKinds := [.data], laidTests := true, laidLooks := .later }
def LedgerApartCardSaid : Prop := Claim7.holds Tryd.pinned (.plain (OpenSpec.ofChange ledgerApartSpec)) ledgerApartCard

/-- THE TIED CARD OF 'taximeterlaw16.LedgerOpens'. -/
def ledgerOpensCard : Claim7 := { stood := { row := ledgerOpensRow, standIns := [], harness := (true, "e9a4fb9a9b04808318189cdc0a4693fcdcb16ea39545a60f59a440ef635739fd"), looks := false }, kinds := [], alts := [], laidByText := true, laidKinds := [.data], laidTests := true, laidLooks := .later }
def LedgerOpensCardSaid : Prop := Claim7.holds Tryd.pinned (.plain (OpenSpec.ofChange ledgerOpensSpec)) ledgerOpensCard

/-- THE TIED CARD OF 'taximeterlaw16.LedgerFolds'. -/
def ledgerFoldsCard : Claim7 := { stood := { row := ledgerFoldsRow, standIns := [], harness := (true, "e9a4fb9a9b04808318189cdc0a4693fcdcb16ea39545a60f59a440ef635739fd"), looks := false }, kinds := [], alts := [], laidByText := true, laidKinds := [.data], laidTests := true, laidLooks := .later }
def LedgerFoldsCardSaid : Prop := Claim7.holds Tryd.pinned (.plain (OpenSpec.ofChange ledgerFoldsSpec)) ledgerFoldsCard

/-- THE SECOND FORM's CARD OF 'taximeterlaw15.AcctStays'. -/
def acctStaysUptoCard : Claim7 := { stood := { row := acctStaysUptoRow, standIns := [], harness := (true, "e9a4fb9a9b04808318189cdc0a4693fcdcb16ea39545a60f59a440ef635739fd"), looks := false }, kinds := [], alts := [], laidByText := true, laidKinds := [.data], laidTests := true, laidLooks := .later }
def AcctStaysUptoCardSaid : Prop := Claim7.holds Tryd.pinned (.plain (OpenSpec.upto acctStaysSpec)) acctStaysUptoCard

/-- THE SECOND FORM's CARD OF 'taximeterlaw15.AcctRight'. -/
def acctRightUptoCard : Claim7 := { stood := { row := acctRightUptoRow, standIns := [], harness := (true, "e9a4fb9a9b04808318189cdc0a4693fcdcb16ea39545a60f59a440ef635739fd"), looks := false }, kinds := [], alts := [], laidByText := true, laidKinds := [.data], laidTests := true, laidLooks := .later }
def AcctRightUptoCardSaid : Prop := Claim7.holds Tryd.pinned (.plain (OpenSpec.upto acctRightSpec)) acctRightUptoCard

/-- THE SECOND FORM's CARD OF 'taximeterlaw17.SnapEncodes'. -/
def snapEncodesUptoCard : Claim7 := { stood := { row := snapEncodesUptoRow, standIns := [], harness := (true, "e9a4fb9a9b04808318189cdc0a4693fcdcb16ea39545a60f59a440ef635739fd"), looks := false }, kinds := [], alts := [], laidByText := true, laidKinds := [.data], laidTests := true, laidLooks := .later }
def SnapEncodesUptoCardSaid : Prop := Claim7.holds Tryd.pinned (.plain (OpenSpec.upto snapEncodesSpec)) snapEncodesUptoCard

/-- THE SECOND FORM's CARD OF 'taximeterlaw17.SnapDecodes'. -/
def snapDecodesUptoCard : Claim7 := { stood := { row := snapDecodesUptoRow, standIns := [], harness := (true, "e9a4fb9a9b04808318189cdc0a4693fcdcb16ea39545a60f59a440ef635739fd"), looks := false }, kinds := [], alts := [], laidByText := true, laidKinds := [.data], laidTests := true, laidLooks := .later }
def SnapDecodesUptoCardSaid : Prop := Claim7.holds Tryd.pinned (.plain (OpenSpec.upto snapDecodesSpec)) snapDecodesUptoCard

/-- THE SECOND FORM's CARD OF 'taximeterlaw17.SnapShort'. -/
def snapShortUptoCard : Claim7 := { stood := { row := snapShortUptoRow, standIns := [], harness := (true, "e9a4fb9a9b04808318189cdc0a4693fcdcb16ea39545a60f59a440ef635739fd"), looks := false }, kinds := [], alts := [], laidByText := true, laidKinds := [.data], laidTests := true, laidLooks := .later }
def SnapShortUptoCardSaid : Prop := Claim7.holds Tryd.pinned (.plain (OpenSpec.upto snapShortSpec)) snapShortUptoCard

/-- THE SECOND FORM's CARD OF 'taximeterlaw16.LedgerApplies'. -/
def ledgerAppliesUptoCard : Claim7 := { stood := { row := ledgerAppliesUptoRow, standIns := [], harness := (true, "e9a4fb9a9b04808318189cdc0a4693fcdcb16ea39545a60f59a440ef635739fd"), looks := false }, kinds := [], alts := [], laidByText := true, laidKinds := [.data], laidTests := true, laidLooks := .later }
def LedgerAppliesUptoCardSaid : Prop := Claim7.holds Tryd.pinned (.plain (OpenSpec.upto ledgerAppliesSpec)) ledgerAppliesUptoCard

/-- THE SECOND FORM's CARD OF 'taximeterlaw16.LedgerApart'. -/
def ledgerApartUptoCard : Claim7 := { stood := { row := ledgerApartUptoRow, standIns := [], harness := (true, "e9a4fb9a9b04808318189cdc0a4693fcdcb16ea39545a60f59a440ef635739fd"), looks := false }, kinds := [], alts := [], laidByText := true, laidKinds := [.data], laidTests := true, laidLooks := .later }
def LedgerApartUptoCardSaid : Prop := Claim7.holds Tryd.pinned (.plain (OpenSpec.upto ledgerApartSpec)) ledgerApartUptoCard

/-- THE SECOND FORM's CARD OF 'taximeterlaw16.LedgerOpens'. -/
def ledgerOpensUptoCard : Claim7 := { stood := { row := ledgerOpensUptoRow, standIns := [], harness := (true, "e9a4fb9a9b04808318189cdc0a4693fcdcb16ea39545a60f59a440ef635739fd"), looks := false }, kinds := [], alts := [], laidByText := true, laidKinds := [.data], laidTests := true, laidLooks := .later }
def LedgerOpensUptoCardSaid : Prop := Claim7.holds Tryd.pinned (.plain (OpenSpec.upto ledgerOpensSpec)) ledgerOpensUptoCard

/-- THE SECOND FORM's CARD OF 'taximeterlaw16.LedgerFolds'. -/
def ledgerFoldsUptoCard : Claim7 := { stood := { row := ledgerFoldsUptoRow, standIns := [], harness := (true, "e9a4fb9a9b04808318189cdc0a4693fcdcb16ea39545a60f59a440ef635739fd"), looks := false }, kinds := [], alts := [], laidByText := true, laidKinds := [.data], laidTests := true, laidLooks := .later }
def LedgerFoldsUptoCardSaid : Prop := Claim7.holds Tryd.pinned (.plain (OpenSpec.upto ledgerFoldsSpec)) ledgerFoldsUptoCard
end Rows
end Go.Proofs.YtkbjnlbbfapgdaaDoor
