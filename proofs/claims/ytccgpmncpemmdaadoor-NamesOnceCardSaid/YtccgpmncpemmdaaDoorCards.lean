/-
  DERIVED. GIVEN WITH THE SEED: THE CARDS: each row of YtccgpmncpemmdaaDoorRows.lean that lists a variable, with what it lists TIED to the program's text (the seventh form; the later family's looks); each row that meets fmt, with fmt's text TOLD by the authors' own Lean function (tested against real Go, not proved from fmt's source: count such statements apart). THE CARD IS WHAT COUNTS. Prove the row's statement (the work); the ties are given (YtccgpmncpemmdaaDoorTie.lean); close each card by the builder's one call (the guide's Derived/Test/ToyasCard.lean, 'card_holds'). Laid BY PROGRAM, IN A SANDBOX (cutbox-door.mjs). By AI agents, Wed Nov 11 2026. No macro, syntax, notation, axiom, sorry.
-/
import Derived.Test.YtccgpmncpemmdaaDoorRows
import GoSem.ClaimSeven
namespace Go.Proofs.YtccgpmncpemmdaaDoor
namespace Rows

/-- THE TIED CARD OF 'rewindlaw10.NamesLists'. -/
def namesListsCard : Claim7 := { stood := { row := namesListsRow, standIns := [], harness := (true, "e6060c3e9f00db02bd710517d1386f908ac2896a23d583f87d7a410536a4e989"), looks := false }, kinds := [], alts := [], laidByText := true, laidKinds := [.data, .listed, .data, .pinned], laidTests := true, laidLooks := .later }
def NamesListsCardSaid : Prop := Claim7.holds Tryd.pinned (.plain (OpenSpec.ofChange namesListsSpec)) namesListsCard

/-- THE TIED CARD OF 'rewindlaw10.NamesScopes'. -/
def namesScopesCard : Claim7 := { stood := { row := namesScopesRow, standIns := [], harness := (true, "e6060c3e9f00db02bd710517d1386f908ac2896a23d583f87d7a410536a4e989"), looks := false }, kinds := [], alts := [], laidByText := true, laidKinds := [.data, .listed, .data, .pinned], laidTests := true, laidLooks := .later }
def NamesScopesCardSaid : Prop := Claim7.holds Tryd.pinned (.plain (OpenSpec.ofChange namesScopesSpec)) namesScopesCard

/-- THE TIED CARD OF 'rewindlaw10.NamesOnce'. -/
def namesOnceCard : Claim7 := { stood := { row := namesOnceRow, standIns := [], harness := (true, "e6060c3e9f00db02bd710517d1386f908ac2896a23d583f87d7a410536a4e989"), looks := false }, kinds := [], alts := [], laidByText := true, laidKinds := [.data, .listed, .data, .pinned], laidTests := true, laidLooks := .later }
def NamesOnceCardSaid : Prop := Claim7.holds Tryd.pinned (.plain (OpenSpec.ofChange namesOnceSpec)) namesOnceCard

/-- THE TIED CARD OF 'rewindlaw10.NamesBodies'. -/
def namesBodiesCard : Claim7 := { stood := { row := namesBodiesRow, standIns := [], harness := (true, "e6060c3e9f00db02bd710517d1386f908ac2896a23d583f87d7a410536a4e989"), looks := false }, kinds := [], alts := [], laidByText := true, laidKinds := [.data, .listed, .data, .pinned], laidTests := true, laidLooks := .later }
def NamesBodiesCardSaid : Prop := Claim7.holds Tryd.pinned (.plain (OpenSpec.ofChange namesBodiesSpec)) namesBodiesCard

/-- THE TIED CARD OF 'rewindlaw10.NamesMany'. -/
def namesManyCard : Claim7 := { stood := { row := namesManyRow, standIns := [], harness := (true, "e6060c3e9f00db02bd710517d1386f908ac2896a23d583f87d7a410536a4e989"), looks := false }, kinds := [], alts := [], laidByText := true, laidKinds := [.data, .listed, .data, .pinned], laidTests := true, laidLooks := .later }
def NamesManyCardSaid : Prop := Claim7.holds Tryd.pinned (.plain (OpenSpec.ofChange namesManySpec)) namesManyCard

/-- THE TIED CARD OF 'rewindlaw10.NamesRefuses'. -/
def namesRefusesCard : Claim7 := { stood := { row := namesRefusesRow, standIns := [], harness := (true, "e6060c3e9f00db02bd710517d1386f908ac2896a23d583f87d7a410536a4e989"), looks := false }, kinds := [], alts := [], laidByText := true, laidKinds := [.data, .listed, .data, .pinned], laidTests := true, laidLooks := .later }
def NamesRefusesCardSaid : Prop := Claim7.holds Tryd.pinned (.plain (OpenSpec.ofChange namesRefusesSpec)) namesRefusesCard

/-- THE SECOND FORM's CARD OF 'rewindlaw10.NamesLists'. -/
def namesListsUptoCard : Claim7 := { stood := { row := namesListsUptoRow, standIns := [], harness := (true, "e6060c3e9f00db02bd710517d1386f908ac2896a23d583f87d7a410536a4e989"), looks := false }, kinds := [], alts := [], laidByText := true, laidKinds := [.data, .listed, .data, .pinned], laidTests := true, laidLooks := .later }
def NamesListsUptoCardSaid : Prop := Claim7.holds Tryd.pinned (.plain (OpenSpec.upto namesListsSpec)) namesListsUptoCard

/-- THE SECOND FORM's CARD OF 'rewindlaw10.NamesScopes'. -/
def namesScopesUptoCard : Claim7 := { stood := { row := namesScopesUptoRow, standIns := [], harness := (true, "e6060c3e9f00db02bd710517d1386f908ac2896a23d583f87d7a410536a4e989"), looks := false }, kinds := [], alts := [], laidByText := true, laidKinds := [.data, .listed, .data, .pinned], laidTests := true, laidLooks := .later }
def NamesScopesUptoCardSaid : Prop := Claim7.holds Tryd.pinned (.plain (OpenSpec.upto namesScopesSpec)) namesScopesUptoCard

/-- THE SECOND FORM's CARD OF 'rewindlaw10.NamesOnce'. -/
def namesOnceUptoCard : Claim7 := { stood := { row := namesOnceUptoRow, standIns := [], harness := (true, "e6060c3e9f00db02bd710517d1386f908ac2896a23d583f87d7a410536a4e989"), looks := false }, kinds := [], alts := [], laidByText := true, laidKinds := [.data, .listed, .data, .pinned], laidTests := true, laidLooks := .later }
def NamesOnceUptoCardSaid : Prop := Claim7.holds Tryd.pinned (.plain (OpenSpec.upto namesOnceSpec)) namesOnceUptoCard

/-- THE SECOND FORM's CARD OF 'rewindlaw10.NamesBodies'. -/
def namesBodiesUptoCard : Claim7 := { stood := { row := namesBodiesUptoRow, standIns := [], harness := (true, "e6060c3e9f00db02bd710517d1386f908ac2896a23d583f87d7a410536a4e989"), looks := false }, kinds := [], alts := [], laidByText := true, laidKinds := [.data, .listed, .data, .pinned], laidTests := true, laidLooks := .later }
def NamesBodiesUptoCardSaid : Prop := Claim7.holds Tryd.pinned (.plain (OpenSpec.upto namesBodiesSpec)) namesBodiesUptoCard

/-- THE SECOND FORM's CARD OF 'rewindlaw10.NamesMany'. -/
def namesManyUptoCard : Claim7 := { stood := { row := namesManyUptoRow, standIns := [], harness := (true, "e6060c3e9f00db02bd710517d1386f908ac2896a23d583f87d7a410536a4e989"), looks := false }, kinds := [], alts := [], laidByText := true, laidKinds := [.data, .listed, .data, .pinned], laidTests := true, laidLooks := .later }
def NamesManyUptoCardSaid : Prop := Claim7.holds Tryd.pinned (.plain (OpenSpec.upto namesManySpec)) namesManyUptoCard

/-- THE SECOND FORM's CARD OF 'rewindlaw10.NamesRefuses'. -/
def namesRefusesUptoCard : Claim7 := { stood := { row := namesRefusesUptoRow, standIns := [], harness := (true, "e6060c3e9f00db02bd710517d1386f908ac2896a23d583f87d7a410536a4e989"), looks := false }, kinds := [], alts := [], laidByText := true, laidKinds := [.data, .listed, .data, .pinned], laidTests := true, laidLooks := .later }
def NamesRefusesUptoCardSaid : Prop := Claim7.holds Tryd.pinned (.plain (OpenSpec.upto namesRefusesSpec)) namesRefusesUptoCard
end Rows
end Go.Proofs.YtccgpmncpemmdaaDoor
