/-
  DERIVED. GIVEN WITH THE SEED: THE CARDS: each row of YthpmecbekpmijaaGreatDoorRows.lean that lists a variable, with what it lists TIED to the program's text (the seventh form; the later family's looks); each row that meets fmt, with fmt's text TOLD by the authors' own Lean function (tested against real Go, not proved from fmt's source: count such statements apart). THE CARD IS WHAT COUNTS. Prove the row's statement (the work); the ties are given (YthpmecbekpmijaaGreatDoorTie.lean); close each card by the builder's one call (the guide's Derived/Test/ToyasCard.lean, 'card_holds'). Laid BY PROGRAM, IN A SANDBOX (cutbox-door.mjs). By AI agents, Wed Nov 11 2026. No macro, syntax, notation, axiom, sorry.
-/
import Derived.Test.YthpmecbekpmijaaGreatDoorRows
import GoSem.ClaimSeven
namespace Go.Proofs.YthpmecbekpmijaaGreatDoor
namespace Rows

/-- THE TIED CARD OF 'rewindlaw03.ShapeParts'. -/
def shapePartsCard : Claim7 := { stood := { row := shapePartsRow, standIns := [], harness := (true, "f1029df70603543d5481013e3a44e28bed87f83257e9a103e9b9a1ccaf4ca870"), looks := false }, kinds := [], alts := [], laidByText := true, laidKinds := [.data, .listed, .data, .pinned], laidTests := true, laidLooks := .later }
def ShapePartsCardSaid : Prop := Claim7.holds Tryz.pinned (.plain (OpenSpec.ofChange shapePartsSpec)) shapePartsCard

/-- THE TIED CARD OF 'rewindlaw03.ShapePrograms'. -/
def shapeProgramsCard : Claim7 := { stood := { row := shapeProgramsRow, standIns := [], harness := (true, "f1029df70603543d5481013e3a44e28bed87f83257e9a103e9b9a1ccaf4ca870"), looks := false }, kinds := [], alts := [], laidByText := true, laidKinds := [.data, .listed, .data, .pinned], laidTests := true, laidLooks := .later }
def ShapeProgramsCardSaid : Prop := Claim7.holds Tryz.pinned (.plain (OpenSpec.ofChange shapeProgramsSpec)) shapeProgramsCard

/-- THE TIED CARD OF 'rewindlaw03.ShapeNumbers'. -/
def shapeNumbersCard : Claim7 := { stood := { row := shapeNumbersRow, standIns := [], harness := (true, "f1029df70603543d5481013e3a44e28bed87f83257e9a103e9b9a1ccaf4ca870"), looks := false }, kinds := [], alts := [], laidByText := true, laidKinds := [.data, .listed, .data, .pinned], laidTests := true, laidLooks := .later }
def ShapeNumbersCardSaid : Prop := Claim7.holds Tryz.pinned (.plain (OpenSpec.ofChange shapeNumbersSpec)) shapeNumbersCard

/-- THE TIED CARD OF 'rewindlaw03.ShapeSame'. -/
def shapeSameCard : Claim7 := { stood := { row := shapeSameRow, standIns := [], harness := (true, "f1029df70603543d5481013e3a44e28bed87f83257e9a103e9b9a1ccaf4ca870"), looks := false }, kinds := [], alts := [], laidByText := true, laidKinds := [.data, .listed, .data, .pinned], laidTests := true, laidLooks := .later }
def ShapeSameCardSaid : Prop := Claim7.holds Tryz.pinned (.plain (OpenSpec.ofChange shapeSameSpec)) shapeSameCard

/-- THE TIED CARD OF 'rewindlaw03.ShapeSpoilt'. -/
def shapeSpoiltCard : Claim7 := { stood := { row := shapeSpoiltRow, standIns := [], harness := (true, "f1029df70603543d5481013e3a44e28bed87f83257e9a103e9b9a1ccaf4ca870"), looks := false }, kinds := [], alts := [], laidByText := true, laidKinds := [.data, .listed, .data, .pinned], laidTests := true, laidLooks := .later }
def ShapeSpoiltCardSaid : Prop := Claim7.holds Tryz.pinned (.plain (OpenSpec.ofChange shapeSpoiltSpec)) shapeSpoiltCard

/-- THE SECOND FORM's CARD OF 'rewindlaw03.ShapeParts'. -/
def shapePartsUptoCard : Claim7 := { stood := { row := shapePartsUptoRow, standIns := [], harness := (true, "f1029df70603543d5481013e3a44e28bed87f83257e9a103e9b9a1ccaf4ca870"), looks := false }, kinds := [], alts := [], laidByText := true, laidKinds := [.data, .listed, .data, .pinned], laidTests := true, laidLooks := .later }
def ShapePartsUptoCardSaid : Prop := Claim7.holds Tryz.pinned (.plain (OpenSpec.upto shapePartsSpec)) shapePartsUptoCard

/-- THE SECOND FORM's CARD OF 'rewindlaw03.ShapePrograms'. -/
def shapeProgramsUptoCard : Claim7 := { stood := { row := shapeProgramsUptoRow, standIns := [], harness := (true, "f1029df70603543d5481013e3a44e28bed87f83257e9a103e9b9a1ccaf4ca870"), looks := false }, kinds := [], alts := [], laidByText := true, laidKinds := [.data, .listed, .data, .pinned], laidTests := true, laidLooks := .later }
def ShapeProgramsUptoCardSaid : Prop := Claim7.holds Tryz.pinned (.plain (OpenSpec.upto shapeProgramsSpec)) shapeProgramsUptoCard

/-- THE SECOND FORM's CARD OF 'rewindlaw03.ShapeNumbers'. -/
def shapeNumbersUptoCard : Claim7 := { stood := { row := shapeNumbersUptoRow, standIns := [], harness := (true, "f1029df70603543d5481013e3a44e28bed87f83257e9a103e9b9a1ccaf4ca870"), looks := false }, kinds := [], alts := [], laidByText := true, laidKinds := [.data, .listed, .data, .pinned], laidTests := true, laidLooks := .later }
def ShapeNumbersUptoCardSaid : Prop := Claim7.holds Tryz.pinned (.plain (OpenSpec.upto shapeNumbersSpec)) shapeNumbersUptoCard

/-- THE SECOND FORM's CARD OF 'rewindlaw03.ShapeSame'. -/
def shapeSameUptoCard : Claim7 := { stood := { row := shapeSameUptoRow, standIns := [], harness := (true, "f1029df70603543d5481013e3a44e28bed87f83257e9a103e9b9a1ccaf4ca870"), looks := false }, kinds := [], alts := [], laidByText := true, laidKinds := [.data, .listed, .data, .pinned], laidTests := true, laidLooks := .later }
def ShapeSameUptoCardSaid : Prop := Claim7.holds Tryz.pinned (.plain (OpenSpec.upto shapeSameSpec)) shapeSameUptoCard

/-- THE SECOND FORM's CARD OF 'rewindlaw03.ShapeSpoilt'. -/
def shapeSpoiltUptoCard : Claim7 := { stood := { row := shapeSpoiltUptoRow, standIns := [], harness := (true, "f1029df70603543d5481013e3a44e28bed87f83257e9a103e9b9a1ccaf4ca870"), looks := false }, kinds := [], alts := [], laidByText := true, laidKinds := [.data, .listed, .data, .pinned], laidTests := true, laidLooks := .later }
def ShapeSpoiltUptoCardSaid : Prop := Claim7.holds Tryz.pinned (.plain (OpenSpec.upto shapeSpoiltSpec)) shapeSpoiltUptoCard
end Rows
end Go.Proofs.YthpmecbekpmijaaGreatDoor
