/-
  DERIVED. GIVEN WITH THE SEED: THE CARDS: each row of YtfpikakgaghdbaaDoorRows.lean that lists a variable, with what it lists TIED to the program's text (the seventh form; the later family's looks); each row that meets fmt, with fmt's text TOLD by the authors' own Lean function (tested against real Go, not proved from fmt's source: count such statements apart). THE CARD IS WHAT COUNTS. Prove the row's statement (the work); the ties are given (YtfpikakgaghdbaaDoorTie.lean); close each card by the builder's one call (the guide's Derived/Test/ToyasCard.lean, 'card_holds'). Laid BY PROGRAM, IN A SANDBOX (cutbox-door.mjs). By AI agents, Wed Nov 11 2026. No macro, syntax, notation, axiom, sorry.
-/
import Derived.Test.YtfpikakgaghdbaaDoorRows
import GoSem.ClaimSeven
namespace Go.Proofs.YtfpikakgaghdbaaDoor
namespace Rows

/-- THE TIED CARD OF 'rewindlaw11.TypesOps'. -/
def typesOpsCard : Claim7 := { stood := { row := typesOpsRow, standIns := [], harness := (true, "2cb81f6b552ee5c734f628b7227f8043a7bb3baae8336cb3be324ac469c77e9e"), looks := false }, kinds := [], alts := [], laidByText := true, laidKinds := [.data, .listed, .data, .pinned], laidTests := true, laidLooks := .later }
def TypesOpsCardSaid : Prop := Claim7.holds Tryd.pinned (.plain (OpenSpec.ofChange typesOpsSpec)) typesOpsCard

/-- THE TIED CARD OF 'rewindlaw11.TypesParts'. -/
def typesPartsCard : Claim7 := { stood := { row := typesPartsRow, standIns := [], harness := (true, "2cb81f6b552ee5c734f628b7227f8043a7bb3baae8336cb3be324ac469c77e9e"), looks := false }, kinds := [], alts := [], laidByText := true, laidKinds := [.data, .listed, .data, .pinned], laidTests := true, laidLooks := .later }
def TypesPartsCardSaid : Prop := Claim7.holds Tryd.pinned (.plain (OpenSpec.ofChange typesPartsSpec)) typesPartsCard

/-- THE TIED CARD OF 'rewindlaw11.TypesFirst'. -/
def typesFirstCard : Claim7 := { stood := { row := typesFirstRow, standIns := [], harness := (true, "2cb81f6b552ee5c734f628b7227f8043a7bb3baae8336cb3be324ac469c77e9e"), looks := false }, kinds := [], alts := [], laidByText := true, laidKinds := [.data, .listed, .data, .pinned], laidTests := true, laidLooks := .later }
def TypesFirstCardSaid : Prop := Claim7.holds Tryd.pinned (.plain (OpenSpec.ofChange typesFirstSpec)) typesFirstCard

/-- THE TIED CARD OF 'rewindlaw11.TypesTable'. -/
def typesTableCard : Claim7 := { stood := { row := typesTableRow, standIns := [], harness := (true, "2cb81f6b552ee5c734f628b7227f8043a7bb3baae8336cb3be324ac469c77e9e"), looks := false }, kinds := [], alts := [], laidByText := true, laidKinds := [.data, .listed, .data, .pinned], laidTests := true, laidLooks := .later }
def TypesTableCardSaid : Prop := Claim7.holds Tryd.pinned (.plain (OpenSpec.ofChange typesTableSpec)) typesTableCard

/-- THE TIED CARD OF 'rewindlaw11.TypesOf'. -/
def typesOfCard : Claim7 := { stood := { row := typesOfRow, standIns := [], harness := (true, "2cb81f6b552ee5c734f628b7227f8043a7bb3baae8336cb3be324ac469c77e9e"), looks := false }, kinds := [], alts := [], laidByText := true, laidKinds := [.data, .listed, .data, .pinned], laidTests := true, laidLooks := .later }
def TypesOfCardSaid : Prop := Claim7.holds Tryd.pinned (.plain (OpenSpec.ofChange typesOfSpec)) typesOfCard

/-- THE SECOND FORM's CARD OF 'rewindlaw11.TypesOps'. -/
def typesOpsUptoCard : Claim7 := { stood := { row := typesOpsUptoRow, standIns := [], harness := (true, "2cb81f6b552ee5c734f628b7227f8043a7bb3baae8336cb3be324ac469c77e9e"), looks := false }, kinds := [], alts := [], laidByText := true, laidKinds := [.data, .listed, .data, .pinned], laidTests := true, laidLooks := .later }
def TypesOpsUptoCardSaid : Prop := Claim7.holds Tryd.pinned (.plain (OpenSpec.upto typesOpsSpec)) typesOpsUptoCard

/-- THE SECOND FORM's CARD OF 'rewindlaw11.TypesParts'. -/
def typesPartsUptoCard : Claim7 := { stood := { row := typesPartsUptoRow, standIns := [], harness := (true, "2cb81f6b552ee5c734f628b7227f8043a7bb3baae8336cb3be324ac469c77e9e"), looks := false }, kinds := [], alts := [], laidByText := true, laidKinds := [.data, .listed, .data, .pinned], laidTests := true, laidLooks := .later }
def TypesPartsUptoCardSaid : Prop := Claim7.holds Tryd.pinned (.plain (OpenSpec.upto typesPartsSpec)) typesPartsUptoCard

/-- THE SECOND FORM's CARD OF 'rewindlaw11.TypesFirst'. -/
def typesFirstUptoCard : Claim7 := { stood := { row := typesFirstUptoRow, standIns := [], harness := (true, "2cb81f6b552ee5c734f628b7227f8043a7bb3baae8336cb3be324ac469c77e9e"), looks := false }, kinds := [], alts := [], laidByText := true, laidKinds := [.data, .listed, .data, .pinned], laidTests := true, laidLooks := .later }
def TypesFirstUptoCardSaid : Prop := Claim7.holds Tryd.pinned (.plain (OpenSpec.upto typesFirstSpec)) typesFirstUptoCard

/-- THE SECOND FORM's CARD OF 'rewindlaw11.TypesTable'. -/
def typesTableUptoCard : Claim7 := { stood := { row := typesTableUptoRow, standIns := [], harness := (true, "2cb81f6b552ee5c734f628b7227f8043a7bb3baae8336cb3be324ac469c77e9e"), looks := false }, kinds := [], alts := [], laidByText := true, laidKinds := [.data, .listed, .data, .pinned], laidTests := true, laidLooks := .later }
def TypesTableUptoCardSaid : Prop := Claim7.holds Tryd.pinned (.plain (OpenSpec.upto typesTableSpec)) typesTableUptoCard

/-- THE SECOND FORM's CARD OF 'rewindlaw11.TypesOf'. -/
def typesOfUptoCard : Claim7 := { stood := { row := typesOfUptoRow, standIns := [], harness := (true, "2cb81f6b552ee5c734f628b7227f8043a7bb3baae8336cb3be324ac469c77e9e"), looks := false }, kinds := [], alts := [], laidByText := true, laidKinds := [.data, .listed, .data, .pinned], laidTests := true, laidLooks := .later }
def TypesOfUptoCardSaid : Prop := Claim7.holds Tryd.pinned (.plain (OpenSpec.upto typesOfSpec)) typesOfUptoCard
end Rows
end Go.Proofs.YtfpikakgaghdbaaDoor
