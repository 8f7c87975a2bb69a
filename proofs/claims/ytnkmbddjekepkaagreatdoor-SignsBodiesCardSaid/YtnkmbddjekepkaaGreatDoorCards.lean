/-
  DERIVED. GIVEN WITH THE SEED: THE CARDS: each row of YtnkmbddjekepkaaGreatDoorRows.lean that lists a variable, with what it lists TIED to the program's text (the seventh form; the later family's looks); each row that meets fmt, with fmt's text TOLD by the authors' own Lean function (tested against real Go, not proved from fmt's source: count such statements apart). THE CARD IS WHAT COUNTS. Prove the row's statement (the work); the ties are given (YtnkmbddjekepkaaGreatDoorTie.lean); close each card by the builder's one call (the guide's Derived/Test/ToyasCard.lean, 'card_holds'). Laid BY PROGRAM, IN A SANDBOX (cutbox-door.mjs). By AI agents, Wed Nov 11 2026. No macro, syntax, notation, axiom, sorry.
-/
import Derived.Test.YtnkmbddjekepkaaGreatDoorRows
import GoSem.ClaimSeven
namespace Go.Proofs.YtnkmbddjekepkaaGreatDoor
namespace Rows

/-- THE TIED CARD OF 'rewindlaw12.SignsPrograms'. -/
def signsProgramsCard : Claim7 := { stood := { row := signsProgramsRow, standIns := [], harness := (true, "0cdf6745f7722a550afff931df861f430f1ab8f852d7f637ec88c967ce21e184"), looks := false }, kinds := [], alts := [], laidByText := true, laidKinds := [.data, .listed, .data, .data, .pinned], laidTests := true, laidLooks := .later }
def SignsProgramsCardSaid : Prop := Claim7.holds Tryz.pinned (.plain (OpenSpec.ofChange signsProgramsSpec)) signsProgramsCard

/-- THE TIED CARD OF 'rewindlaw12.SignsBodies'. -/
def signsBodiesCard : Claim7 := { stood := { row := signsBodiesRow, standIns := [], harness := (true, "0cdf6745f7722a550afff931df861f430f1ab8f852d7f637ec88c967ce21e184"), looks := false }, kinds := [], alts := [], laidByText := true, laidKinds := [.data, .listed, .data, .data, .pinned], laidTests := true, laidLooks := .later }
def SignsBodiesCardSaid : Prop := Claim7.holds Tryz.pinned (.plain (OpenSpec.ofChange signsBodiesSpec)) signsBodiesCard

/-- THE SECOND FORM's CARD OF 'rewindlaw12.SignsPrograms'. -/
def signsProgramsUptoCard : Claim7 := { stood := { row := signsProgramsUptoRow, standIns := [], harness := (true, "0cdf6745f7722a550afff931df861f430f1ab8f852d7f637ec88c967ce21e184"), looks := false }, kinds := [], alts := [], laidByText := true, laidKinds := [.data, .listed, .data, .data, .pinned], laidTests := true, laidLooks := .later }
def SignsProgramsUptoCardSaid : Prop := Claim7.holds Tryz.pinned (.plain (OpenSpec.upto signsProgramsSpec)) signsProgramsUptoCard

/-- THE SECOND FORM's CARD OF 'rewindlaw12.SignsBodies'. -/
def signsBodiesUptoCard : Claim7 := { stood := { row := signsBodiesUptoRow, standIns := [], harness := (true, "0cdf6745f7722a550afff931df861f430f1ab8f852d7f637ec88c967ce21e184"), looks := false }, kinds := [], alts := [], laidByText := true, laidKinds := [.data, .listed, .data, .data, .pinned], laidTests := true, laidLooks := .later }
def SignsBodiesUptoCardSaid : Prop := Claim7.holds Tryz.pinned (.plain (OpenSpec.upto signsBodiesSpec)) signsBodiesUptoCard
end Rows
end Go.Proofs.YtnkmbddjekepkaaGreatDoor
