/-
  DERIVED. GIVEN WITH THE SEED: THE CARDS: each row of YthpmecbekpmijaaDoorRows.lean that lists a variable, with what it lists TIED to the program's text (the seventh form; the later family's looks); each row that meets fmt, with fmt's text TOLD by the authors' own Lean function (tested against real Go, not proved from fmt's source: count such statements apart). THE CARD IS WHAT COUNTS. Prove the row's statement (the work); the ties are given (YthpmecbekpmijaaDoorTie.lean); close each card by the builder's one call (the guide's Derived/Test/ToyasCard.lean, 'card_holds'). Laid BY PROGRAM, IN A SANDBOX (cutbox-door.mjs). By AI agents, Wed Nov 11 2026. No macro, syntax, notation, axiom, sorry.
-/
import Derived.Test.YthpmecbekpmijaaDoorRows
import GoSem.ClaimSeven
namespace Go.Proofs.YthpmecbekpmijaaDoor
namespace Rows

/-- THE TIED CARD OF 'rewindlaw03.ShapeStmts'. -/
def shapeStmtsCard : Claim7 := { stood := { row := shapeStmtsRow, standIns := [], harness := (true, "9a1d8ac699d459dae5c7f5b110ecb4ec0f1601ac2cbaa24146c3ae032016b0a9"), looks := false }, kinds := [], alts := [], laidByText := true, laidKinds := [.data, .listed, .data, .pinned], laidTests := true, laidLooks := .later }
def ShapeStmtsCardSaid : Prop := Claim7.holds Tryd.pinned (.plain (OpenSpec.ofChange shapeStmtsSpec)) shapeStmtsCard

/-- THE TIED CARD OF 'rewindlaw03.ShapeExprs'. -/
def shapeExprsCard : Claim7 := { stood := { row := shapeExprsRow, standIns := [], harness := (true, "9a1d8ac699d459dae5c7f5b110ecb4ec0f1601ac2cbaa24146c3ae032016b0a9"), looks := false }, kinds := [], alts := [], laidByText := true, laidKinds := [.data, .listed, .data, .pinned], laidTests := true, laidLooks := .later }
def ShapeExprsCardSaid : Prop := Claim7.holds Tryd.pinned (.plain (OpenSpec.ofChange shapeExprsSpec)) shapeExprsCard

/-- THE TIED CARD OF 'rewindlaw03.ShapeDeep'. -/
def shapeDeepCard : Claim7 := { stood := { row := shapeDeepRow, standIns := [], harness := (true, "9a1d8ac699d459dae5c7f5b110ecb4ec0f1601ac2cbaa24146c3ae032016b0a9"), looks := false }, kinds := [], alts := [], laidByText := true, laidKinds := [.data, .listed, .data, .pinned], laidTests := true, laidLooks := .later }
def ShapeDeepCardSaid : Prop := Claim7.holds Tryd.pinned (.plain (OpenSpec.ofChange shapeDeepSpec)) shapeDeepCard

/-- THE SECOND FORM's CARD OF 'rewindlaw03.ShapeStmts'. -/
def shapeStmtsUptoCard : Claim7 := { stood := { row := shapeStmtsUptoRow, standIns := [], harness := (true, "9a1d8ac699d459dae5c7f5b110ecb4ec0f1601ac2cbaa24146c3ae032016b0a9"), looks := false }, kinds := [], alts := [], laidByText := true, laidKinds := [.data, .listed, .data, .pinned], laidTests := true, laidLooks := .later }
def ShapeStmtsUptoCardSaid : Prop := Claim7.holds Tryd.pinned (.plain (OpenSpec.upto shapeStmtsSpec)) shapeStmtsUptoCard

/-- THE SECOND FORM's CARD OF 'rewindlaw03.ShapeExprs'. -/
def shapeExprsUptoCard : Claim7 := { stood := { row := shapeExprsUptoRow, standIns := [], harness := (true, "9a1d8ac699d459dae5c7f5b110ecb4ec0f1601ac2cbaa24146c3ae032016b0a9"), looks := false }, kinds := [], alts := [], laidByText := true, laidKinds := [.data, .listed, .data, .pinned], laidTests := true, laidLooks := .later }
def ShapeExprsUptoCardSaid : Prop := Claim7.holds Tryd.pinned (.plain (OpenSpec.upto shapeExprsSpec)) shapeExprsUptoCard

/-- THE SECOND FORM's CARD OF 'rewindlaw03.ShapeDeep'. -/
def shapeDeepUptoCard : Claim7 := { stood := { row := shapeDeepUptoRow, standIns := [], harness := (true, "9a1d8ac699d459dae5c7f5b110ecb4ec0f1601ac2cbaa24146c3ae032016b0a9"), looks := false }, kinds := [], alts := [], laidByText := true, laidKinds := [.data, .listed, .data, .pinned], laidTests := true, laidLooks := .later }
def ShapeDeepUptoCardSaid : Prop := Claim7.holds Tryd.pinned (.plain (OpenSpec.upto shapeDeepSpec)) shapeDeepUptoCard
end Rows
end Go.Proofs.YthpmecbekpmijaaDoor
