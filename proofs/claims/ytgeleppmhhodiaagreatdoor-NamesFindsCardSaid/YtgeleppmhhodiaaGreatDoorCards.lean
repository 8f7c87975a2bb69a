/-
  DERIVED. GIVEN WITH THE SEED: THE CARDS: each row of YtgeleppmhhodiaaGreatDoorRows.lean that lists a variable, with what it lists TIED to the program's text (the seventh form; the later family's looks); each row that meets fmt, with fmt's text TOLD by the authors' own Lean function (tested against real Go, not proved from fmt's source: count such statements apart). THE CARD IS WHAT COUNTS. Prove the row's statement (the work); the ties are given (YtgeleppmhhodiaaGreatDoorTie.lean); close each card by the builder's one call (the guide's Derived/Test/ToyasCard.lean, 'card_holds'). Laid BY PROGRAM, IN A SANDBOX (cutbox-door.mjs). By AI agents, Wed Nov 11 2026. No macro, syntax, notation, axiom, sorry.
-/
import Derived.Test.YtgeleppmhhodiaaGreatDoorRows
import GoSem.ClaimSeven
namespace Go.Proofs.YtgeleppmhhodiaaGreatDoor
namespace Rows

/-- THE TIED CARD OF 'rewindlaw10.NamesFinds'. -/
def namesFindsCard : Claim7 := { stood := { row := namesFindsRow, standIns := [], harness := (true, "ed641ba315f3d77d390857456ee64b3cf969c286f5d0a270b39c1d6e943ae73a"), looks := false }, kinds := [], alts := [], laidByText := true, laidKinds := [.data, .listed, .data, .pinned], laidTests := true, laidLooks := .later }
def NamesFindsCardSaid : Prop := Claim7.holds Tryz.pinned (.plain (OpenSpec.ofChange namesFindsSpec)) namesFindsCard

/-- THE SECOND FORM's CARD OF 'rewindlaw10.NamesFinds'. -/
def namesFindsUptoCard : Claim7 := { stood := { row := namesFindsUptoRow, standIns := [], harness := (true, "ed641ba315f3d77d390857456ee64b3cf969c286f5d0a270b39c1d6e943ae73a"), looks := false }, kinds := [], alts := [], laidByText := true, laidKinds := [.data, .listed, .data, .pinned], laidTests := true, laidLooks := .later }
def NamesFindsUptoCardSaid : Prop := Claim7.holds Tryz.pinned (.plain (OpenSpec.upto namesFindsSpec)) namesFindsUptoCard
end Rows
end Go.Proofs.YtgeleppmhhodiaaGreatDoor
