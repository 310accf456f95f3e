/-
  DERIVED. GIVEN WITH THE SEED: THE CARDS: each row of YtkifbcjmmkbilaaDoorRows.lean that lists a variable, with what it lists TIED to the program's text (the seventh form; the later family's looks); each row that meets fmt, with fmt's text TOLD by the authors' own Lean function (tested against real Go, not proved from fmt's source: count such statements apart). THE CARD IS WHAT COUNTS. Prove the row's statement (the work); the ties are given (YtkifbcjmmkbilaaDoorTie.lean); close each card by the builder's one call (the guide's Derived/Test/ToyasCard.lean, 'card_holds'). Laid BY PROGRAM, IN A SANDBOX (cutbox-door.mjs). By AI agents, Wed Nov 11 2026. No macro, syntax, notation, axiom, sorry.
-/
import Derived.Test.YtkifbcjmmkbilaaDoorRows
import GoSem.ClaimSeven
namespace Go.Proofs.YtkifbcjmmkbilaaDoor
namespace Rows

/-- THE TIED CARD OF 'flotillalaw22.ProbeCounted'. -/
def probeCountedCard : Claim7 := { stood := { row := probeCountedRow, standIns := [], harness := (true, "1eb4d5f1871544a3d75794704466324cd8fa3ee342f22141397733989ca98382"), looks := true }, kinds := [], alts := [], laidByText := true, laidKinds := [.handle], laidTests := true, laidLooks := .later }
def ProbeCountedCardSaid : Prop := Claim7.holds Tryd.pinned (.plain (OpenSpec.ofChange probeCountedSpec)) probeCountedCard

/-- THE TIED CARD OF 'flotillalaw22.ProbeKnown'. -/
def probeKnownCard : Claim7 := { stood := { row := probeKnownRow, standIns := [], harness := (true, "1eb4d5f1871544a3d75794704466324cd8fa3ee342f22141397733989ca98382"), looks := true }, kinds := [], alts := [], laidByText := true, laidKinds := [.handle], laidTests := true, laidLooks := .later }
def ProbeKnownCardSaid : Prop := Claim7.holds Tryd.pinned (.plain (OpenSpec.ofChange probeKnownSpec)) probeKnownCard

/-- THE SECOND FORM's CARD OF 'flotillalaw22.ProbeCounted'. -/
def probeCountedUptoCard : Claim7 := { stood := { row := probeCountedUptoRow, standIns := [], harness := (true, "1eb4d5f1871544a3d75794704466324cd8fa3ee342f22141397733989ca98382"), looks := true }, kinds := [], alts := [], laidByText := true, laidKinds := [.handle], laidTests := true, laidLooks := .later }
def ProbeCountedUptoCardSaid : Prop := Claim7.holds Tryd.pinned (.plain (OpenSpec.upto probeCountedSpec)) probeCountedUptoCard

/-- THE SECOND FORM's CARD OF 'flotillalaw22.ProbeKnown'. -/
def probeKnownUptoCard : Claim7 := { stood := { row := probeKnownUptoRow, standIns := [], harness := (true, "1eb4d5f1871544a3d75794704466324cd8fa3ee342f22141397733989ca98382"), looks := true }, kinds := [], alts := [], laidByText := true, laidKinds := [.handle], laidTests := true, laidLooks := .later }
def ProbeKnownUptoCardSaid : Prop := Claim7.holds Tryd.pinned (.plain (OpenSpec.upto probeKnownSpec)) probeKnownUptoCard
end Rows
end Go.Proofs.YtkifbcjmmkbilaaDoor
