/-
  DERIVED. GIVEN WITH THE SEED: THE CARDS: each row of YtnkmbddjekepkaaDoorRows.lean that lists a variable, with what it lists TIED to the program's text (the seventh form; the later family's looks); each row that meets fmt, with fmt's text TOLD by the authors' own Lean function (tested against real Go, not proved from fmt's source: count such statements apart). THE CARD IS WHAT COUNTS. Prove the row's statement (the work); the ties are given (YtnkmbddjekepkaaDoorTie.lean); close each card by the builder's one call (the guide's Derived/Test/ToyasCard.lean, 'card_holds'). Laid BY PROGRAM, IN A SANDBOX (cutbox-door.mjs). By AI agents, Wed Nov 11 2026. No macro, syntax, notation, axiom, sorry.
-/
import Derived.Test.YtnkmbddjekepkaaDoorRows
import GoSem.ClaimSeven
namespace Go.Proofs.YtnkmbddjekepkaaDoor
namespace Rows

/-- THE TIED CARD OF 'rewindlaw12.SignsCalls'. -/
def signsCallsCard : Claim7 := { stood := { row := signsCallsRow, standIns := [], harness := (true, "12d9e1f56b8cc37fd8a1f432f8c1c8206dd2b6d8506d9c3c1e2d658b17ffd183"), looks := false }, kinds := [], alts := [], laidByText := true, laidKinds := [.data, .listed, .data, .data, .pinned], laidTests := true, laidLooks := .later }
def SignsCallsCardSaid : Prop := Claim7.holds Tryd.pinned (.plain (OpenSpec.ofChange signsCallsSpec)) signsCallsCard

/-- THE TIED CARD OF 'rewindlaw12.SignsRight'. -/
def signsRightCard : Claim7 := { stood := { row := signsRightRow, standIns := [], harness := (true, "12d9e1f56b8cc37fd8a1f432f8c1c8206dd2b6d8506d9c3c1e2d658b17ffd183"), looks := false }, kinds := [], alts := [], laidByText := true, laidKinds := [.data, .listed, .data, .data, .pinned], laidTests := true, laidLooks := .later }
def SignsRightCardSaid : Prop := Claim7.holds Tryd.pinned (.plain (OpenSpec.ofChange signsRightSpec)) signsRightCard

/-- THE TIED CARD OF 'rewindlaw12.SignsTwice'. -/
def signsTwiceCard : Claim7 := { stood := { row := signsTwiceRow, standIns := [], harness := (true, "12d9e1f56b8cc37fd8a1f432f8c1c8206dd2b6d8506d9c3c1e2d658b17ffd183"), looks := false }, kinds := [], alts := [], laidByText := true, laidKinds := [.data, .listed, .data, .data, .pinned], laidTests := true, laidLooks := .later }
def SignsTwiceCardSaid : Prop := Claim7.holds Tryd.pinned (.plain (OpenSpec.ofChange signsTwiceSpec)) signsTwiceCard

/-- THE TIED CARD OF 'rewindlaw12.SignsTexts'. -/
def signsTextsCard : Claim7 := { stood := { row := signsTextsRow, standIns := [], harness := (true, "12d9e1f56b8cc37fd8a1f432f8c1c8206dd2b6d8506d9c3c1e2d658b17ffd183"), looks := false }, kinds := [], alts := [], laidByText := true, laidKinds := [.data, .listed, .data, .data, .pinned], laidTests := true, laidLooks := .later }
def SignsTextsCardSaid : Prop := Claim7.holds Tryd.pinned (.plain (OpenSpec.ofChange signsTextsSpec)) signsTextsCard

/-- THE SECOND FORM's CARD OF 'rewindlaw12.SignsCalls'. -/
def signsCallsUptoCard : Claim7 := { stood := { row := signsCallsUptoRow, standIns := [], harness := (true, "12d9e1f56b8cc37fd8a1f432f8c1c8206dd2b6d8506d9c3c1e2d658b17ffd183"), looks := false }, kinds := [], alts := [], laidByText := true, laidKinds := [.data, .listed, .data, .data, .pinned], laidTests := true, laidLooks := .later }
def SignsCallsUptoCardSaid : Prop := Claim7.holds Tryd.pinned (.plain (OpenSpec.upto signsCallsSpec)) signsCallsUptoCard

/-- THE SECOND FORM's CARD OF 'rewindlaw12.SignsRight'. -/
def signsRightUptoCard : Claim7 := { stood := { row := signsRightUptoRow, standIns := [], harness := (true, "12d9e1f56b8cc37fd8a1f432f8c1c8206dd2b6d8506d9c3c1e2d658b17ffd183"), looks := false }, kinds := [], alts := [], laidByText := true, laidKinds := [.data, .listed, .data, .data, .pinned], laidTests := true, laidLooks := .later }
def SignsRightUptoCardSaid : Prop := Claim7.holds Tryd.pinned (.plain (OpenSpec.upto signsRightSpec)) signsRightUptoCard

/-- THE SECOND FORM's CARD OF 'rewindlaw12.SignsTwice'. -/
def signsTwiceUptoCard : Claim7 := { stood := { row := signsTwiceUptoRow, standIns := [], harness := (true, "12d9e1f56b8cc37fd8a1f432f8c1c8206dd2b6d8506d9c3c1e2d658b17ffd183"), looks := false }, kinds := [], alts := [], laidByText := true, laidKinds := [.data, .listed, .data, .data, .pinned], laidTests := true, laidLooks := .later }
def SignsTwiceUptoCardSaid : Prop := Claim7.holds Tryd.pinned (.plain (OpenSpec.upto signsTwiceSpec)) signsTwiceUptoCard

/-- THE SECOND FORM's CARD OF 'rewindlaw12.SignsTexts'. -/
def signsTextsUptoCard : Claim7 := { stood := { row := signsTextsUptoRow, standIns := [], harness := (true, "12d9e1f56b8cc37fd8a1f432f8c1c8206dd2b6d8506d9c3c1e2d658b17ffd183"), looks := false }, kinds := [], alts := [], laidByText := true, laidKinds := [.data, .listed, .data, .data, .pinned], laidTests := true, laidLooks := .later }
def SignsTextsUptoCardSaid : Prop := Claim7.holds Tryd.pinned (.plain (OpenSpec.upto signsTextsSpec)) signsTextsUptoCard
end Rows
end Go.Proofs.YtnkmbddjekepkaaDoor
