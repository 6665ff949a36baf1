/-
  DERIVED. GIVEN WITH THE SEED: THE CARDS: each row of YtbbillankhofkaaDoorRows.lean that lists a variable, with what it lists TIED to the program's text (the seventh form; the later family's looks); each row that meets fmt, with fmt's text TOLD by the authors' own Lean function (tested against real Go, not proved from fmt's source: count such statements apart). THE CARD IS WHAT COUNTS. Prove the row's statement (the work); the ties are given (YtbbillankhofkaaDoorTie.lean); close each card by the builder's one call (the guide's Derived/Test/ToyasCard.lean, 'card_holds'). Laid BY PROGRAM, IN A SANDBOX (cutbox-door.mjs). By AI agents, Wed Nov 11 2026. No macro, syntax, notation, axiom, sorry.
-/
import Derived.Test.YtbbillankhofkaaDoorRows
import GoSem.ClaimSeven
namespace Go.Proofs.YtbbillankhofkaaDoor
namespace Rows

/-- THE TIED CARD OF 'taximeterlaw03.ShaSums'. -/
def shaSumsCard : Claim7 := { stood := { row := shaSumsRow, standIns := [], harness := (true, "72f8aaa39c706d009011454f6c2d06dc832b2a938e43dfbead079991e40e5a36"), looks := false }, kinds := [], alts := [], laidByText := true, laidKinds := [.data], laidTests := true, laidLooks := .later }
def ShaSumsCardSaid : Prop := Claim7.holds Tryd.pinned (.plain (OpenSpec.ofChange shaSumsSpec)) shaSumsCard

/-- THE TIED CARD OF 'taximeterlaw03.ShaBlocks'. -/
def shaBlocksCard : Claim7 := { stood := { row := shaBlocksRow, standIns := [], harness := (true, "72f8aaa39c706d009011454f6c2d06dc832b2a938e43dfbead079991e40e5a36"), looks := false }, kinds := [], alts := [], laidByText := true, laidKinds := [.data], laidTests := true, laidLooks := .later }
def ShaBlocksCardSaid : Prop := Claim7.holds Tryd.pinned (.plain (OpenSpec.ofChange shaBlocksSpec)) shaBlocksCard

/-- THE TIED CARD OF 'taximeterlaw03.ShaPads'. -/
def shaPadsCard : Claim7 := { stood := { row := shaPadsRow, standIns := [], harness := (true, "72f8aaa39c706d009011454f6c2d06dc832b2a938e43dfbead079991e40e5a36"), looks := false }, kinds := [], alts := [], laidByText := true, laidKinds := [.data], laidTests := true, laidLooks := .later }
def ShaPadsCardSaid : Prop := Claim7.holds Tryd.pinned (.plain (OpenSpec.ofChange shaPadsSpec)) shaPadsCard

/-- THE TIED CARD OF 'taximeterlaw03.ShaGoesOn'. -/
def shaGoesOnCard : Claim7 := { stood := { row := shaGoesOnRow, standIns := [], harness := (true, "72f8aaa39c706d009011454f6c2d06dc832b2a938e43dfbead079991e40e5a36"), looks := false }, kinds := [], alts := [], laidByText := true, laidKinds := [.data], laidTests := true, laidLooks := .later }
def ShaGoesOnCardSaid : Prop := Claim7.holds Tryd.pinned (.plain (OpenSpec.ofChange shaGoesOnSpec)) shaGoesOnCard

/-- THE TIED CARD OF 'taximeterlaw04.HmacKeys'. -/
def hmacKeysCard : Claim7 := { stood := { row := hmacKeysRow, standIns := [], harness := (true, "72f8aaa39c706d009011454f6c2d06dc832b2a938e43dfbead079991e40e5a36"), looks := false }, kinds := [], alts := [], laidByText := true, laidKinds := [.data], laidTests := true, laidLooks := .later }
def HmacKeysCardSaid : Prop := Claim7.holds Tryd.pinned (.plain (OpenSpec.ofChange hmacKeysSpec)) hmacKeysCard

/-- THE TIED CARD OF 'taximeterlaw04.HmacSame'. -/
def hmacSameCard : Claim7 := { stood := { row := hmacSameRow, standIns := [], harness := (true, "72f8aaa39c706d009011454f6c2d06dc832b2a938e43dfbead079991e40e5a36"), looks := false }, kinds := [], alts := [], laidByText := true, laidKinds := [.data], laidTests := true, laidLooks := .later }
def HmacSameCardSaid : Prop := Claim7.holds Tryd.pinned (.plain (OpenSpec.ofChange hmacSameSpec)) hmacSameCard

/-- THE TIED CARD OF 'taximeterlaw04.HmacTags'. -/
def hmacTagsCard : Claim7 := { stood := { row := hmacTagsRow, standIns := [], harness := (true, "72f8aaa39c706d009011454f6c2d06dc832b2a938e43dfbead079991e40e5a36"), looks := false }, kinds := [], alts := [], laidByText := true, laidKinds := [.data], laidTests := true, laidLooks := .later }
def HmacTagsCardSaid : Prop := Claim7.holds Tryd.pinned (.plain (OpenSpec.ofChange hmacTagsSpec)) hmacTagsCard

/-- THE TIED CARD OF 'taximeterlaw23.AuthHellos'. -/
def authHellosCard : Claim7 := { stood := { row := authHellosRow, standIns := [], harness := (true, "72f8aaa39c706d009011454f6c2d06dc832b2a938e43dfbead079991e40e5a36"), looks := false }, kinds := [], alts := [], laidByText := true, laidKinds := [.data], laidTests := true, laidLooks := .later }
def AuthHellosCardSaid : Prop := Claim7.holds Tryd.pinned (.plain (OpenSpec.ofChange authHellosSpec)) authHellosCard

/-- THE TIED CARD OF 'taximeterlaw23.AuthRosters'. -/
def authRostersCard : Claim7 := { stood := { row := authRostersRow, standIns := [], harness := (true, "72f8aaa39c706d009011454f6c2d06dc832b2a938e43dfbead079991e40e5a36"), looks := false }, kinds := [], alts := [], laidByText := true, laidKinds := [.data], laidTests := true, laidLooks := .later }
def AuthRostersCardSaid : Prop := Claim7.holds Tryd.pinned (.plain (OpenSpec.ofChange authRostersSpec)) authRostersCard

/-- THE SECOND FORM's CARD OF 'taximeterlaw03.ShaSums'. -/
def shaSumsUptoCard : Claim7 := { stood := { row := shaSumsUptoRow, standIns := [], harness := (true, "72f8aaa39c706d009011454f6c2d06dc832b2a938e43dfbead079991e40e5a36"), looks := false }, kinds := [], alts := [], laidByText := true, laidKinds := [.data], laidTests := true, laidLooks := .later }
def ShaSumsUptoCardSaid : Prop := Claim7.holds Tryd.pinned (.plain (OpenSpec.upto shaSumsSpec)) shaSumsUptoCard

/-- THE SECOND FORM's CARD OF 'taximeterlaw03.ShaBlocks'. -/
def shaBlocksUptoCard : Claim7 := { stood := { row := shaBlocksUptoRow, standIns := [], harness := (true, "72f8aaa39c706d009011454f6c2d06dc832b2a938e43dfbead079991e40e5a36"), looks := false }, kinds := [], alts := [], laidByText := true, laidKinds := [.data], laidTests := true, laidLooks := .later }
def ShaBlocksUptoCardSaid : Prop := Claim7.holds Tryd.pinned (.plain (OpenSpec.upto shaBlocksSpec)) shaBlocksUptoCard

/-- THE SECOND FORM's CARD OF 'taximeterlaw03.ShaPads'. -/
def shaPadsUptoCard : Claim7 := { stood := { row := shaPadsUptoRow, standIns := [], harness := (true, "72f8aaa39c706d009011454f6c2d06dc832b2a938e43dfbead079991e40e5a36"), looks := false }, kinds := [], alts := [], laidByText := true, laidKinds := [.data], laidTests := true, laidLooks := .later }
def ShaPadsUptoCardSaid : Prop := Claim7.holds Tryd.pinned (.plain (OpenSpec.upto shaPadsSpec)) shaPadsUptoCard

/-- THE SECOND FORM's CARD OF 'taximeterlaw03.ShaGoesOn'. -/
def shaGoesOnUptoCard : Claim7 := { stood := { row := shaGoesOnUptoRow, standIns := [], harness := (true, "72f8aaa39c706d009011454f6c2d06dc832b2a938e43dfbead079991e40e5a36"), looks := false }, kinds := [], alts := [], laidByText := true, laidKinds := [.data], laidTests := true, laidLooks := .later }
def ShaGoesOnUptoCardSaid : Prop := Claim7.holds Tryd.pinned (.plain (OpenSpec.upto shaGoesOnSpec)) shaGoesOnUptoCard

/-- THE SECOND FORM's CARD OF 'taximeterlaw04.HmacKeys'. -/
def hmacKeysUptoCard : Claim7 := { stood := { row := hmacKeysUptoRow, standIns := [], harness := (true, "72f8aaa39c706d009011454f6c2d06dc832b2a938e43dfbead079991e40e5a36"), looks := false }, kinds := [], alts := [], laidByText := true, laidKinds := [.data], laidTests := true, laidLooks := .later }
def HmacKeysUptoCardSaid : Prop := Claim7.holds Tryd.pinned (.plain (OpenSpec.upto hmacKeysSpec)) hmacKeysUptoCard

/-- THE SECOND FORM's CARD OF 'taximeterlaw04.HmacSame'. -/
def hmacSameUptoCard : Claim7 := { stood := { row := hmacSameUptoRow, standIns := [], harness := (true, "72f8aaa39c706d009011454f6c2d06dc832b2a938e43dfbead079991e40e5a36"), looks := false }, kinds := [], alts := [], laidByText := true, laidKinds := [.data], laidTests := true, laidLooks := .later }
def HmacSameUptoCardSaid : Prop := Claim7.holds Tryd.pinned (.plain (OpenSpec.upto hmacSameSpec)) hmacSameUptoCard

/-- THE SECOND FORM's CARD OF 'taximeterlaw04.HmacTags'. -/
def hmacTagsUptoCard : Claim7 := { stood := { row := hmacTagsUptoRow, standIns := [], harness := (true, "72f8aaa39c706d009011454f6c2d06dc832b2a938e43dfbead079991e40e5a36"), looks := false }, kinds := [], alts := [], laidByText := true, laidKinds := [.data], laidTests := true, laidLooks := .later }
def HmacTagsUptoCardSaid : Prop := Claim7.holds Tryd.pinned (.plain (OpenSpec.upto hmacTagsSpec)) hmacTagsUptoCard

/-- THE SECOND FORM's CARD OF 'taximeterlaw23.AuthHellos'. -/
def authHellosUptoCard : Claim7 := { stood := { row := authHellosUptoRow, standIns := [], harness := (true, "72f8aaa39c706d009011454f6c2d06dc832b2a938e43dfbead079991e40e5a36"), looks := false }, kinds := [], alts := [], laidByText := true, laidKinds := [.data], laidTests := true, laidLooks := .later }
def AuthHellosUptoCardSaid : Prop := Claim7.holds Tryd.pinned (.plain (OpenSpec.upto authHellosSpec)) authHellosUptoCard

/-- THE SECOND FORM's CARD OF 'taximeterlaw23.AuthRosters'. -/
def authRostersUptoCard : Claim7 := { stood := { row := authRostersUptoRow, standIns := [], harness := (true, "72f8aaa39c706d009011454f6c2d06dc832b2a938e43dfbead079991e40e5a36"), looks := false }, kinds := [], alts := [], laidByText := true, laidKinds := [.data], laidTests := true, laidLooks := .later }
def AuthRostersUptoCardSaid : Prop := Claim7.holds Tryd.pinned (.plain (OpenSpec.upto authRostersSpec)) authRostersUptoCard
end Rows
end Go.Proofs.YtbbillankhofkaaDoor
