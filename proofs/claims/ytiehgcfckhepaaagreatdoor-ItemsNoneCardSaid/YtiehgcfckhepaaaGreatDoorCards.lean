/-
  DERIVED. GIVEN WITH THE SEED: THE CARDS: each row of YtiehgcfckhepaaaGreatDoorRows.lean that lists a variable, with what it lists TIED to the program's text (the seventh form; the later family's looks); each row that meets fmt, with fmt's text TOLD by the authors' own Lean function (tested against real Go, not proved from fmt's source: count such statements apart). THE CARD IS WHAT COUNTS. Prove the row's statement (the work); the ties are given (YtiehgcfckhepaaaGreatDoorTie.lean); close each card by the builder's one call (the guide's Derived/Test/ToyasCard.lean, 'card_holds'). Laid BY PROGRAM, IN A SANDBOX (cutbox-door.mjs). By AI agents, Wed Nov 11 2026. No macro, syntax, notation, axiom, sorry.
-/
import Derived.Test.YtiehgcfckhepaaaGreatDoorRows
import GoSem.ClaimSeven
namespace Go.Proofs.YtiehgcfckhepaaaGreatDoor
namespace Rows

/-- THE TIED CARD OF 'frisketlaw13.UsefulNone'. -/
def usefulNoneCard : Claim7 := { stood := { row := usefulNoneRow, standIns := [], harness := (true, "3ed525e41984415471ff3acb0ba1d4f9b492271f84da406ba2671450e522b9c2"), looks := true }, kinds := [], alts := [], laidByText := true, laidKinds := [.data, .data, .data, .data, .pinned], laidTests := true, laidLooks := .later }
def UsefulNoneCardSaid : Prop := Claim7.holds Tryz.pinned (.plain (OpenSpec.ofChange usefulNoneSpec)) usefulNoneCard

/-- THE TIED CARD OF 'frisketlaw31.PaintNone'. -/
def paintNoneCard : Claim7 := { stood := { row := paintNoneRow, standIns := [], harness := (true, "3ed525e41984415471ff3acb0ba1d4f9b492271f84da406ba2671450e522b9c2"), looks := true }, kinds := [], alts := [], laidByText := true, laidKinds := [.data, .data, .data, .data, .pinned], laidTests := true, laidLooks := .later }
def PaintNoneCardSaid : Prop := Claim7.holds Tryz.pinned (.plain (OpenSpec.ofChange paintNoneSpec)) paintNoneCard

/-- THE TIED CARD OF 'frisketlaw19.ChartNone'. -/
def chartNoneCard : Claim7 := { stood := { row := chartNoneRow, standIns := [], harness := (true, "3ed525e41984415471ff3acb0ba1d4f9b492271f84da406ba2671450e522b9c2"), looks := true }, kinds := [], alts := [], laidByText := true, laidKinds := [.data, .data, .data, .data, .pinned], laidTests := true, laidLooks := .later }
def ChartNoneCardSaid : Prop := Claim7.holds Tryz.pinned (.plain (OpenSpec.ofChange chartNoneSpec)) chartNoneCard

/-- THE TIED CARD OF 'frisketlaw14.ItemsNone'. -/
def itemsNoneCard : Claim7 := { stood := { row := itemsNoneRow, standIns := [], harness := (true, "3ed525e41984415471ff3acb0ba1d4f9b492271f84da406ba2671450e522b9c2"), looks := true }, kinds := [], alts := [], laidByText := true, laidKinds := [.data, .data, .data, .data, .pinned], laidTests := true, laidLooks := .later }
def ItemsNoneCardSaid : Prop := Claim7.holds Tryz.pinned (.plain (OpenSpec.ofChange itemsNoneSpec)) itemsNoneCard

/-- THE TIED CARD OF 'frisketlaw15.TableNone'. -/
def tableNoneCard : Claim7 := { stood := { row := tableNoneRow, standIns := [], harness := (true, "3ed525e41984415471ff3acb0ba1d4f9b492271f84da406ba2671450e522b9c2"), looks := true }, kinds := [], alts := [], laidByText := true, laidKinds := [.data, .data, .data, .data, .pinned], laidTests := true, laidLooks := .later }
def TableNoneCardSaid : Prop := Claim7.holds Tryz.pinned (.plain (OpenSpec.ofChange tableNoneSpec)) tableNoneCard

/-- THE TIED CARD OF 'frisketlaw18.DriveNone'. -/
def driveNoneCard : Claim7 := { stood := { row := driveNoneRow, standIns := [], harness := (true, "3ed525e41984415471ff3acb0ba1d4f9b492271f84da406ba2671450e522b9c2"), looks := true }, kinds := [], alts := [], laidByText := true, laidKinds := [.data, .data, .data, .data, .pinned], laidTests := true, laidLooks := .later }
def DriveNoneCardSaid : Prop := Claim7.holds Tryz.pinned (.plain (OpenSpec.ofChange driveNoneSpec)) driveNoneCard

/-- THE SECOND FORM's CARD OF 'frisketlaw13.UsefulNone'. -/
def usefulNoneUptoCard : Claim7 := { stood := { row := usefulNoneUptoRow, standIns := [], harness := (true, "3ed525e41984415471ff3acb0ba1d4f9b492271f84da406ba2671450e522b9c2"), looks := true }, kinds := [], alts := [], laidByText := true, laidKinds := [.data, .data, .data, .data, .pinned], laidTests := true, laidLooks := .later }
def UsefulNoneUptoCardSaid : Prop := Claim7.holds Tryz.pinned (.plain (OpenSpec.upto usefulNoneSpec)) usefulNoneUptoCard

/-- THE SECOND FORM's CARD OF 'frisketlaw31.PaintNone'. -/
def paintNoneUptoCard : Claim7 := { stood := { row := paintNoneUptoRow, standIns := [], harness := (true, "3ed525e41984415471ff3acb0ba1d4f9b492271f84da406ba2671450e522b9c2"), looks := true }, kinds := [], alts := [], laidByText := true, laidKinds := [.data, .data, .data, .data, .pinned], laidTests := true, laidLooks := .later }
def PaintNoneUptoCardSaid : Prop := Claim7.holds Tryz.pinned (.plain (OpenSpec.upto paintNoneSpec)) paintNoneUptoCard

/-- THE SECOND FORM's CARD OF 'frisketlaw19.ChartNone'. -/
def chartNoneUptoCard : Claim7 := { stood := { row := chartNoneUptoRow, standIns := [], harness := (true, "3ed525e41984415471ff3acb0ba1d4f9b492271f84da406ba2671450e522b9c2"), looks := true }, kinds := [], alts := [], laidByText := true, laidKinds := [.data, .data, .data, .data, .pinned], laidTests := true, laidLooks := .later }
def ChartNoneUptoCardSaid : Prop := Claim7.holds Tryz.pinned (.plain (OpenSpec.upto chartNoneSpec)) chartNoneUptoCard

/-- THE SECOND FORM's CARD OF 'frisketlaw14.ItemsNone'. -/
def itemsNoneUptoCard : Claim7 := { stood := { row := itemsNoneUptoRow, standIns := [], harness := (true, "3ed525e41984415471ff3acb0ba1d4f9b492271f84da406ba2671450e522b9c2"), looks := true }, kinds := [], alts := [], laidByText := true, laidKinds := [.data, .data, .data, .data, .pinned], laidTests := true, laidLooks := .later }
def ItemsNoneUptoCardSaid : Prop := Claim7.holds Tryz.pinned (.plain (OpenSpec.upto itemsNoneSpec)) itemsNoneUptoCard

/-- THE SECOND FORM's CARD OF 'frisketlaw15.TableNone'. -/
def tableNoneUptoCard : Claim7 := { stood := { row := tableNoneUptoRow, standIns := [], harness := (true, "3ed525e41984415471ff3acb0ba1d4f9b492271f84da406ba2671450e522b9c2"), looks := true }, kinds := [], alts := [], laidByText := true, laidKinds := [.data, .data, .data, .data, .pinned], laidTests := true, laidLooks := .later }
def TableNoneUptoCardSaid : Prop := Claim7.holds Tryz.pinned (.plain (OpenSpec.upto tableNoneSpec)) tableNoneUptoCard

/-- THE SECOND FORM's CARD OF 'frisketlaw18.DriveNone'. -/
def driveNoneUptoCard : Claim7 := { stood := { row := driveNoneUptoRow, standIns := [], harness := (true, "3ed525e41984415471ff3acb0ba1d4f9b492271f84da406ba2671450e522b9c2"), looks := true }, kinds := [], alts := [], laidByText := true, laidKinds := [.data, .data, .data, .data, .pinned], laidTests := true, laidLooks := .later }
def DriveNoneUptoCardSaid : Prop := Claim7.holds Tryz.pinned (.plain (OpenSpec.upto driveNoneSpec)) driveNoneUptoCard
end Rows
end Go.Proofs.YtiehgcfckhepaaaGreatDoor
