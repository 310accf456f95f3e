/-
  DERIVED. GIVEN WITH THE SEED: THE CARDS: each row of YtckihppdjoianaaDoorRows.lean that lists a variable, with what it lists TIED to the program's text (the seventh form; the later family's looks); each row that meets fmt, with fmt's text TOLD by the authors' own Lean function (tested against real Go, not proved from fmt's source: count such statements apart). THE CARD IS WHAT COUNTS. Prove the row's statement (the work); the ties are given (YtckihppdjoianaaDoorTie.lean); close each card by the builder's one call (the guide's Derived/Test/ToyasCard.lean, 'card_holds'). Laid BY PROGRAM, IN A SANDBOX (cutbox-door.mjs). By AI agents, Wed Nov 11 2026. No macro, syntax, notation, axiom, sorry.
-/
import Derived.Test.YtckihppdjoianaaDoorRows
import GoSem.ClaimSeven
namespace Go.Proofs.YtckihppdjoianaaDoor
namespace Rows

/-- THE TIED CARD OF 'flotillalaw04.SumJoined'. -/
def sumJoinedCard : Claim7 := { stood := { row := sumJoinedRow, standIns := [], harness := (true, "94b4de1d5b50c714834d860bfab70b6cea6e2dd086811d0e82267b7b9fe1ed69"), looks := true }, kinds := [], alts := [], laidByText := true, laidKinds := [.handle], laidTests := true, laidLooks := .later }
def SumJoinedCardSaid : Prop := Claim7.holds Tryd.pinned (.plain (OpenSpec.ofChange sumJoinedSpec)) sumJoinedCard

/-- THE TIED CARD OF 'flotillalaw04.SumKnown'. -/
def sumKnownCard : Claim7 := { stood := { row := sumKnownRow, standIns := [], harness := (true, "94b4de1d5b50c714834d860bfab70b6cea6e2dd086811d0e82267b7b9fe1ed69"), looks := true }, kinds := [], alts := [], laidByText := true, laidKinds := [.handle], laidTests := true, laidLooks := .later }
def SumKnownCardSaid : Prop := Claim7.holds Tryd.pinned (.plain (OpenSpec.ofChange sumKnownSpec)) sumKnownCard

/-- THE SECOND FORM's CARD OF 'flotillalaw04.SumJoined'. -/
def sumJoinedUptoCard : Claim7 := { stood := { row := sumJoinedUptoRow, standIns := [], harness := (true, "94b4de1d5b50c714834d860bfab70b6cea6e2dd086811d0e82267b7b9fe1ed69"), looks := true }, kinds := [], alts := [], laidByText := true, laidKinds := [.handle], laidTests := true, laidLooks := .later }
def SumJoinedUptoCardSaid : Prop := Claim7.holds Tryd.pinned (.plain (OpenSpec.upto sumJoinedSpec)) sumJoinedUptoCard

/-- THE SECOND FORM's CARD OF 'flotillalaw04.SumKnown'. -/
def sumKnownUptoCard : Claim7 := { stood := { row := sumKnownUptoRow, standIns := [], harness := (true, "94b4de1d5b50c714834d860bfab70b6cea6e2dd086811d0e82267b7b9fe1ed69"), looks := true }, kinds := [], alts := [], laidByText := true, laidKinds := [.handle], laidTests := true, laidLooks := .later }
def SumKnownUptoCardSaid : Prop := Claim7.holds Tryd.pinned (.plain (OpenSpec.upto sumKnownSpec)) sumKnownUptoCard
end Rows
end Go.Proofs.YtckihppdjoianaaDoor
