/-
  DERIVED. GIVEN WITH THE SEED: THE CARDS: each row of YtopmadkajacniaaGreatDoorRows.lean that lists a variable, with what it lists TIED to the program's text (the seventh form; the later family's looks); each row that meets fmt, with fmt's text TOLD by the authors' own Lean function (tested against real Go, not proved from fmt's source: count such statements apart). THE CARD IS WHAT COUNTS. Prove the row's statement (the work); the ties are given (YtopmadkajacniaaGreatDoorTie.lean); close each card by the builder's one call (the guide's Derived/Test/ToyasCard.lean, 'card_holds'). Laid BY PROGRAM, IN A SANDBOX (cutbox-door.mjs). By AI agents, Wed Nov 11 2026. No macro, syntax, notation, axiom, sorry.
-/
import Derived.Test.YtopmadkajacniaaGreatDoorRows
import GoSem.ClaimSeven
namespace Go.Proofs.YtopmadkajacniaaGreatDoor
namespace Rows

/-- THE TIED CARD OF 'frisketlaw11.GramPrints'. -/
def gramPrintsCard : Claim7 := { stood := { row := gramPrintsRow, standIns := [], harness := (true, "d0cb58a7d44c06bac894aed15494c35d00d26b0b00dec472b3225db6ceaa1fe4"), looks := true }, kinds := [], alts := [], laidByText := true, laidKinds := [.data, .data, .data, .data, .pinned], laidTests := true, laidLooks := .later }
def GramPrintsCardSaid : Prop := Claim7.holds Tryz.pinned (.plain (OpenSpec.ofChange gramPrintsSpec)) gramPrintsCard

/-- THE TIED CARD OF 'frisketlaw11.GramNone'. -/
def gramNoneCard : Claim7 := { stood := { row := gramNoneRow, standIns := [], harness := (true, "d0cb58a7d44c06bac894aed15494c35d00d26b0b00dec472b3225db6ceaa1fe4"), looks := true }, kinds := [], alts := [], laidByText := true, laidKinds := [.data, .data, .data, .data, .pinned], laidTests := true, laidLooks := .later }
def GramNoneCardSaid : Prop := Claim7.holds Tryz.pinned (.plain (OpenSpec.ofChange gramNoneSpec)) gramNoneCard

/-- THE TIED CARD OF 'frisketlaw11.GramScans'. -/
def gramScansCard : Claim7 := { stood := { row := gramScansRow, standIns := [], harness := (true, "d0cb58a7d44c06bac894aed15494c35d00d26b0b00dec472b3225db6ceaa1fe4"), looks := true }, kinds := [], alts := [], laidByText := true, laidKinds := [.data, .data, .data, .data, .pinned], laidTests := true, laidLooks := .later }
def GramScansCardSaid : Prop := Claim7.holds Tryz.pinned (.plain (OpenSpec.ofChange gramScansSpec)) gramScansCard

/-- THE TIED CARD OF 'frisketlaw12.SetsKnow'. -/
def setsKnowCard : Claim7 := { stood := { row := setsKnowRow, standIns := [], harness := (true, "d0cb58a7d44c06bac894aed15494c35d00d26b0b00dec472b3225db6ceaa1fe4"), looks := true }, kinds := [], alts := [], laidByText := true, laidKinds := [.data, .data, .data, .data, .pinned], laidTests := true, laidLooks := .later }
def SetsKnowCardSaid : Prop := Claim7.holds Tryz.pinned (.plain (OpenSpec.ofChange setsKnowSpec)) setsKnowCard

/-- THE TIED CARD OF 'frisketlaw12.SetsLevels'. -/
def setsLevelsCard : Claim7 := { stood := { row := setsLevelsRow, standIns := [], harness := (true, "d0cb58a7d44c06bac894aed15494c35d00d26b0b00dec472b3225db6ceaa1fe4"), looks := true }, kinds := [], alts := [], laidByText := true, laidKinds := [.data, .data, .data, .data, .pinned], laidTests := true, laidLooks := .later }
def SetsLevelsCardSaid : Prop := Claim7.holds Tryz.pinned (.plain (OpenSpec.ofChange setsLevelsSpec)) setsLevelsCard

/-- THE TIED CARD OF 'frisketlaw12.SetsBegin'. -/
def setsBeginCard : Claim7 := { stood := { row := setsBeginRow, standIns := [], harness := (true, "d0cb58a7d44c06bac894aed15494c35d00d26b0b00dec472b3225db6ceaa1fe4"), looks := true }, kinds := [], alts := [], laidByText := true, laidKinds := [.data, .data, .data, .data, .pinned], laidTests := true, laidLooks := .later }
def SetsBeginCardSaid : Prop := Claim7.holds Tryz.pinned (.plain (OpenSpec.ofChange setsBeginSpec)) setsBeginCard

/-- THE TIED CARD OF 'frisketlaw12.SetsPlaces'. -/
def setsPlacesCard : Claim7 := { stood := { row := setsPlacesRow, standIns := [], harness := (true, "d0cb58a7d44c06bac894aed15494c35d00d26b0b00dec472b3225db6ceaa1fe4"), looks := true }, kinds := [], alts := [], laidByText := true, laidKinds := [.data, .data, .data, .data, .pinned], laidTests := true, laidLooks := .later }
def SetsPlacesCardSaid : Prop := Claim7.holds Tryz.pinned (.plain (OpenSpec.ofChange setsPlacesSpec)) setsPlacesCard

/-- THE TIED CARD OF 'frisketlaw12.SetsNone'. -/
def setsNoneCard : Claim7 := { stood := { row := setsNoneRow, standIns := [], harness := (true, "d0cb58a7d44c06bac894aed15494c35d00d26b0b00dec472b3225db6ceaa1fe4"), looks := true }, kinds := [], alts := [], laidByText := true, laidKinds := [.data, .data, .data, .data, .pinned], laidTests := true, laidLooks := .later }
def SetsNoneCardSaid : Prop := Claim7.holds Tryz.pinned (.plain (OpenSpec.ofChange setsNoneSpec)) setsNoneCard

/-- THE TIED CARD OF 'frisketlaw13.UsefulYields'. -/
def usefulYieldsCard : Claim7 := { stood := { row := usefulYieldsRow, standIns := [], harness := (true, "d0cb58a7d44c06bac894aed15494c35d00d26b0b00dec472b3225db6ceaa1fe4"), looks := true }, kinds := [], alts := [], laidByText := true, laidKinds := [.data, .data, .data, .data, .pinned], laidTests := true, laidLooks := .later }
def UsefulYieldsCardSaid : Prop := Claim7.holds Tryz.pinned (.plain (OpenSpec.ofChange usefulYieldsSpec)) usefulYieldsCard

/-- THE TIED CARD OF 'frisketlaw13.UsefulSizes'. -/
def usefulSizesCard : Claim7 := { stood := { row := usefulSizesRow, standIns := [], harness := (true, "d0cb58a7d44c06bac894aed15494c35d00d26b0b00dec472b3225db6ceaa1fe4"), looks := true }, kinds := [], alts := [], laidByText := true, laidKinds := [.data, .data, .data, .data, .pinned], laidTests := true, laidLooks := .later }
def UsefulSizesCardSaid : Prop := Claim7.holds Tryz.pinned (.plain (OpenSpec.ofChange usefulSizesSpec)) usefulSizesCard

/-- THE TIED CARD OF 'frisketlaw13.UsefulNone'. -/
def usefulNoneCard : Claim7 := { stood := { row := usefulNoneRow, standIns := [], harness := (true, "d0cb58a7d44c06bac894aed15494c35d00d26b0b00dec472b3225db6ceaa1fe4"), looks := true }, kinds := [], alts := [], laidByText := true, laidKinds := [.data, .data, .data, .data, .pinned], laidTests := true, laidLooks := .later }
def UsefulNoneCardSaid : Prop := Claim7.holds Tryz.pinned (.plain (OpenSpec.ofChange usefulNoneSpec)) usefulNoneCard

/-- THE TIED CARD OF 'frisketlaw19.ChartEmpty'. -/
def chartEmptyCard : Claim7 := { stood := { row := chartEmptyRow, standIns := [], harness := (true, "d0cb58a7d44c06bac894aed15494c35d00d26b0b00dec472b3225db6ceaa1fe4"), looks := true }, kinds := [], alts := [], laidByText := true, laidKinds := [.data, .data, .data, .data, .pinned], laidTests := true, laidLooks := .later }
def ChartEmptyCardSaid : Prop := Claim7.holds Tryz.pinned (.plain (OpenSpec.ofChange chartEmptySpec)) chartEmptyCard

/-- THE SECOND FORM's CARD OF 'frisketlaw11.GramPrints'. -/
def gramPrintsUptoCard : Claim7 := { stood := { row := gramPrintsUptoRow, standIns := [], harness := (true, "d0cb58a7d44c06bac894aed15494c35d00d26b0b00dec472b3225db6ceaa1fe4"), looks := true }, kinds := [], alts := [], laidByText := true, laidKinds := [.data, .data, .data, .data, .pinned], laidTests := true, laidLooks := .later }
def GramPrintsUptoCardSaid : Prop := Claim7.holds Tryz.pinned (.plain (OpenSpec.upto gramPrintsSpec)) gramPrintsUptoCard

/-- THE SECOND FORM's CARD OF 'frisketlaw11.GramNone'. -/
def gramNoneUptoCard : Claim7 := { stood := { row := gramNoneUptoRow, standIns := [], harness := (true, "d0cb58a7d44c06bac894aed15494c35d00d26b0b00dec472b3225db6ceaa1fe4"), looks := true }, kinds := [], alts := [], laidByText := true, laidKinds := [.data, .data, .data, .data, .pinned], laidTests := true, laidLooks := .later }
def GramNoneUptoCardSaid : Prop := Claim7.holds Tryz.pinned (.plain (OpenSpec.upto gramNoneSpec)) gramNoneUptoCard

/-- THE SECOND FORM's CARD OF 'frisketlaw11.GramScans'. -/
def gramScansUptoCard : Claim7 := { stood := { row := gramScansUptoRow, standIns := [], harness := (true, "d0cb58a7d44c06bac894aed15494c35d00d26b0b00dec472b3225db6ceaa1fe4"), looks := true }, kinds := [], alts := [], laidByText := true, laidKinds := [.data, .data, .data, .data, .pinned], laidTests := true, laidLooks := .later }
def GramScansUptoCardSaid : Prop := Claim7.holds Tryz.pinned (.plain (OpenSpec.upto gramScansSpec)) gramScansUptoCard

/-- THE SECOND FORM's CARD OF 'frisketlaw12.SetsKnow'. -/
def setsKnowUptoCard : Claim7 := { stood := { row := setsKnowUptoRow, standIns := [], harness := (true, "d0cb58a7d44c06bac894aed15494c35d00d26b0b00dec472b3225db6ceaa1fe4"), looks := true }, kinds := [], alts := [], laidByText := true, laidKinds := [.data, .data, .data, .data, .pinned], laidTests := true, laidLooks := .later }
def SetsKnowUptoCardSaid : Prop := Claim7.holds Tryz.pinned (.plain (OpenSpec.upto setsKnowSpec)) setsKnowUptoCard

/-- THE SECOND FORM's CARD OF 'frisketlaw12.SetsLevels'. -/
def setsLevelsUptoCard : Claim7 := { stood := { row := setsLevelsUptoRow, standIns := [], harness := (true, "d0cb58a7d44c06bac894aed15494c35d00d26b0b00dec472b3225db6ceaa1fe4"), looks := true }, kinds := [], alts := [], laidByText := true, laidKinds := [.data, .data, .data, .data, .pinned], laidTests := true, laidLooks := .later }
def SetsLevelsUptoCardSaid : Prop := Claim7.holds Tryz.pinned (.plain (OpenSpec.upto setsLevelsSpec)) setsLevelsUptoCard

/-- THE SECOND FORM's CARD OF 'frisketlaw12.SetsBegin'. -/
def setsBeginUptoCard : Claim7 := { stood := { row := setsBeginUptoRow, standIns := [], harness := (true, "d0cb58a7d44c06bac894aed15494c35d00d26b0b00dec472b3225db6ceaa1fe4"), looks := true }, kinds := [], alts := [], laidByText := true, laidKinds := [.data, .data, .data, .data, .pinned], laidTests := true, laidLooks := .later }
def SetsBeginUptoCardSaid : Prop := Claim7.holds Tryz.pinned (.plain (OpenSpec.upto setsBeginSpec)) setsBeginUptoCard

/-- THE SECOND FORM's CARD OF 'frisketlaw12.SetsPlaces'. -/
def setsPlacesUptoCard : Claim7 := { stood := { row := setsPlacesUptoRow, standIns := [], harness := (true, "d0cb58a7d44c06bac894aed15494c35d00d26b0b00dec472b3225db6ceaa1fe4"), looks := true }, kinds := [], alts := [], laidByText := true, laidKinds := [.data, .data, .data, .data, .pinned], laidTests := true, laidLooks := .later }
def SetsPlacesUptoCardSaid : Prop := Claim7.holds Tryz.pinned (.plain (OpenSpec.upto setsPlacesSpec)) setsPlacesUptoCard

/-- THE SECOND FORM's CARD OF 'frisketlaw12.SetsNone'. -/
def setsNoneUptoCard : Claim7 := { stood := { row := setsNoneUptoRow, standIns := [], harness := (true, "d0cb58a7d44c06bac894aed15494c35d00d26b0b00dec472b3225db6ceaa1fe4"), looks := true }, kinds := [], alts := [], laidByText := true, laidKinds := [.data, .data, .data, .data, .pinned], laidTests := true, laidLooks := .later }
def SetsNoneUptoCardSaid : Prop := Claim7.holds Tryz.pinned (.plain (OpenSpec.upto setsNoneSpec)) setsNoneUptoCard

/-- THE SECOND FORM's CARD OF 'frisketlaw13.UsefulYields'. -/
def usefulYieldsUptoCard : Claim7 := { stood := { row := usefulYieldsUptoRow, standIns := [], harness := (true, "d0cb58a7d44c06bac894aed15494c35d00d26b0b00dec472b3225db6ceaa1fe4"), looks := true }, kinds := [], alts := [], laidByText := true, laidKinds := [.data, .data, .data, .data, .pinned], laidTests := true, laidLooks := .later }
def UsefulYieldsUptoCardSaid : Prop := Claim7.holds Tryz.pinned (.plain (OpenSpec.upto usefulYieldsSpec)) usefulYieldsUptoCard

/-- THE SECOND FORM's CARD OF 'frisketlaw13.UsefulSizes'. -/
def usefulSizesUptoCard : Claim7 := { stood := { row := usefulSizesUptoRow, standIns := [], harness := (true, "d0cb58a7d44c06bac894aed15494c35d00d26b0b00dec472b3225db6ceaa1fe4"), looks := true }, kinds := [], alts := [], laidByText := true, laidKinds := [.data, .data, .data, .data, .pinned], laidTests := true, laidLooks := .later }
def UsefulSizesUptoCardSaid : Prop := Claim7.holds Tryz.pinned (.plain (OpenSpec.upto usefulSizesSpec)) usefulSizesUptoCard

/-- THE SECOND FORM's CARD OF 'frisketlaw13.UsefulNone'. -/
def usefulNoneUptoCard : Claim7 := { stood := { row := usefulNoneUptoRow, standIns := [], harness := (true, "d0cb58a7d44c06bac894aed15494c35d00d26b0b00dec472b3225db6ceaa1fe4"), looks := true }, kinds := [], alts := [], laidByText := true, laidKinds := [.data, .data, .data, .data, .pinned], laidTests := true, laidLooks := .later }
def UsefulNoneUptoCardSaid : Prop := Claim7.holds Tryz.pinned (.plain (OpenSpec.upto usefulNoneSpec)) usefulNoneUptoCard

/-- THE SECOND FORM's CARD OF 'frisketlaw19.ChartEmpty'. -/
def chartEmptyUptoCard : Claim7 := { stood := { row := chartEmptyUptoRow, standIns := [], harness := (true, "d0cb58a7d44c06bac894aed15494c35d00d26b0b00dec472b3225db6ceaa1fe4"), looks := true }, kinds := [], alts := [], laidByText := true, laidKinds := [.data, .data, .data, .data, .pinned], laidTests := true, laidLooks := .later }
def ChartEmptyUptoCardSaid : Prop := Claim7.holds Tryz.pinned (.plain (OpenSpec.upto chartEmptySpec)) chartEmptyUptoCard
end Rows
end Go.Proofs.YtopmadkajacniaaGreatDoor
