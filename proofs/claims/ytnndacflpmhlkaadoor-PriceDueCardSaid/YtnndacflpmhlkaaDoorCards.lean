/-
  DERIVED. GIVEN WITH THE SEED: THE CARDS: each row of YtnndacflpmhlkaaDoorRows.lean that lists a variable, with what it lists TIED to the program's text (the seventh form; the later family's looks); each row that meets fmt, with fmt's text TOLD by the authors' own Lean function (tested against real Go, not proved from fmt's source: count such statements apart). THE CARD IS WHAT COUNTS. Prove the row's statement (the work); the ties are given (YtnndacflpmhlkaaDoorTie.lean); close each card by the builder's one call (the guide's Derived/Test/ToyasCard.lean, 'card_holds'). Laid BY PROGRAM, IN A SANDBOX (cutbox-door.mjs). By AI agents, Wed Nov 11 2026. No macro, syntax, notation, axiom, sorry.
-/
import Derived.Test.YtnndacflpmhlkaaDoorRows
import GoSem.ClaimSeven
namespace Go.Proofs.YtnndacflpmhlkaaDoor
namespace Rows

/-- THE TIED CARD OF 'taximeterlaw06.PriceDue'. -/
def priceDueCard : Claim7 := { stood := { row := priceDueRow, standIns := [], harness := (true, "f01f2995734f86c159a084f59dfb450e079895dd61f99dac9781e7f525824074"), looks := false }, kinds := [], alts := [], laidByText := true, laidKinds := [.data], laidTests := true, laidLooks := .later }
def PriceDueCardSaid : Prop := Claim7.holds Tryd.pinned (.plain (OpenSpec.ofChange priceDueSpec)) priceDueCard

/-- THE TIED CARD OF 'taximeterlaw06.PriceRises'. -/
def priceRisesCard : Claim7 := { stood := { row := priceRisesRow, standIns := [], harness := (true, "f01f2995734f86c159a084f59dfb450e079895dd61f99dac9781e7f525824074"), looks := false }, kinds := [], alts := [], laidByText := true, laidKinds := [.data], laidTests := true, laidLooks := .later }
def PriceRisesCardSaid : Prop := Claim7.holds Tryd.pinned (.plain (OpenSpec.ofChange priceRisesSpec)) priceRisesCard

/-- THE TIED CARD OF 'taximeterlaw06.PriceAdds'. -/
def priceAddsCard : Claim7 := { stood := { row := priceAddsRow, standIns := [], harness := (true, "f01f2995734f86c159a084f59dfb450e079895dd61f99dac9781e7f525824074"), looks := false }, kinds := [], alts := [], laidByText := true, laidKinds := [.data], laidTests := true, laidLooks := .later }
def PriceAddsCardSaid : Prop := Claim7.holds Tryd.pinned (.plain (OpenSpec.ofChange priceAddsSpec)) priceAddsCard

/-- THE TIED CARD OF 'taximeterlaw05.RealParts'. -/
def realPartsCard : Claim7 := { stood := { row := realPartsRow, standIns := [], harness := (true, "f01f2995734f86c159a084f59dfb450e079895dd61f99dac9781e7f525824074"), looks := false }, kinds := [], alts := [], laidByText := true, laidKinds := [.data], laidTests := true, laidLooks := .later }
def RealPartsCardSaid : Prop := Claim7.holds Tryd.pinned (.plain (OpenSpec.ofChange realPartsSpec)) realPartsCard

/-- THE SECOND FORM's CARD OF 'taximeterlaw06.PriceDue'. -/
def priceDueUptoCard : Claim7 := { stood := { row := priceDueUptoRow, standIns := [], harness := (true, "f01f2995734f86c159a084f59dfb450e079895dd61f99dac9781e7f525824074"), looks := false }, kinds := [], alts := [], laidByText := true, laidKinds := [.data], laidTests := true, laidLooks := .later }
def PriceDueUptoCardSaid : Prop := Claim7.holds Tryd.pinned (.plain (OpenSpec.upto priceDueSpec)) priceDueUptoCard

/-- THE SECOND FORM's CARD OF 'taximeterlaw06.PriceRises'. -/
def priceRisesUptoCard : Claim7 := { stood := { row := priceRisesUptoRow, standIns := [], harness := (true, "f01f2995734f86c159a084f59dfb450e079895dd61f99dac9781e7f525824074"), looks := false }, kinds := [], alts := [], laidByText := true, laidKinds := [.data], laidTests := true, laidLooks := .later }
def PriceRisesUptoCardSaid : Prop := Claim7.holds Tryd.pinned (.plain (OpenSpec.upto priceRisesSpec)) priceRisesUptoCard

/-- THE SECOND FORM's CARD OF 'taximeterlaw06.PriceAdds'. -/
def priceAddsUptoCard : Claim7 := { stood := { row := priceAddsUptoRow, standIns := [], harness := (true, "f01f2995734f86c159a084f59dfb450e079895dd61f99dac9781e7f525824074"), looks := false }, kinds := [], alts := [], laidByText := true, laidKinds := [.data], laidTests := true, laidLooks := .later }
def PriceAddsUptoCardSaid : Prop := Claim7.holds Tryd.pinned (.plain (OpenSpec.upto priceAddsSpec)) priceAddsUptoCard

/-- THE SECOND FORM's CARD OF 'taximeterlaw05.RealParts'. -/
def realPartsUptoCard : Claim7 := { stood := { row := realPartsUptoRow, standIns := [], harness := (true, "f01f2995734f86c159a084f59dfb450e079895dd61f99dac9781e7f525824074"), looks := false }, kinds := [], alts := [], laidByText := true, laidKinds := [.data], laidTests := true, laidLooks := .later }
def RealPartsUptoCardSaid : Prop := Claim7.holds Tryd.pinned (.plain (OpenSpec.upto realPartsSpec)) realPartsUptoCard
end Rows
end Go.Proofs.YtnndacflpmhlkaaDoor
