/-
  DERIVED. GIVEN WITH THE SEED: THE CARDS: each row of YtfcbalmelaipdaaDoorRows.lean that lists a variable, with what it lists TIED to the program's text (the seventh form; the later family's looks); each row that meets fmt, with fmt's text TOLD by the authors' own Lean function (tested against real Go, not proved from fmt's source: count such statements apart). THE CARD IS WHAT COUNTS. Prove the row's statement (the work); the ties are given (YtfcbalmelaipdaaDoorTie.lean); close each card by the builder's one call (the guide's Derived/Test/ToyasCard.lean, 'card_holds'). Laid BY PROGRAM, IN A SANDBOX (cutbox-door.mjs). By AI agents, Wed Nov 11 2026. No macro, syntax, notation, axiom, sorry.
-/
import Derived.Test.YtfcbalmelaipdaaDoorRows
import GoSem.ClaimSeven
namespace Go.Proofs.YtfcbalmelaipdaaDoor
namespace Rows

/-- THE TIED CARD OF 'flotillalaw17.LeaseTakes'. -/
def leaseTakesCard : Claim7 := { stood := { row := leaseTakesRow, standIns := [], harness := (true, "3089fb0d2a46d8787f016f041fce83ce34a0c1eccf0574dd1d1c9d09c3ce0095"), looks := true }, kinds := [], alts := [], laidByText := true, laidKinds := [.handle], laidTests := true, laidLooks := .later }
def LeaseTakesCardSaid : Prop := Claim7.holds Tryd.pinned (.plain (OpenSpec.ofChange leaseTakesSpec)) leaseTakesCard

/-- THE TIED CARD OF 'flotillalaw17.LeaseTerms'. -/
def leaseTermsCard : Claim7 := { stood := { row := leaseTermsRow, standIns := [], harness := (true, "3089fb0d2a46d8787f016f041fce83ce34a0c1eccf0574dd1d1c9d09c3ce0095"), looks := true }, kinds := [], alts := [], laidByText := true, laidKinds := [.handle], laidTests := true, laidLooks := .later }
def LeaseTermsCardSaid : Prop := Claim7.holds Tryd.pinned (.plain (OpenSpec.ofChange leaseTermsSpec)) leaseTermsCard

/-- THE TIED CARD OF 'flotillalaw17.LeaseKnown'. -/
def leaseKnownCard : Claim7 := { stood := { row := leaseKnownRow, standIns := [], harness := (true, "3089fb0d2a46d8787f016f041fce83ce34a0c1eccf0574dd1d1c9d09c3ce0095"), looks := true }, kinds := [], alts := [], laidByText := true, laidKinds := [.handle], laidTests := true, laidLooks := .later }
def LeaseKnownCardSaid : Prop := Claim7.holds Tryd.pinned (.plain (OpenSpec.ofChange leaseKnownSpec)) leaseKnownCard

/-- THE SECOND FORM's CARD OF 'flotillalaw17.LeaseTakes'. -/
def leaseTakesUptoCard : Claim7 := { stood := { row := leaseTakesUptoRow, standIns := [], harness := (true, "3089fb0d2a46d8787f016f041fce83ce34a0c1eccf0574dd1d1c9d09c3ce0095"), looks := true }, kinds := [], alts := [], laidByText := true, laidKinds := [.handle], laidTests := true, laidLooks := .later }
def LeaseTakesUptoCardSaid : Prop := Claim7.holds Tryd.pinned (.plain (OpenSpec.upto leaseTakesSpec)) leaseTakesUptoCard

/-- THE SECOND FORM's CARD OF 'flotillalaw17.LeaseTerms'. -/
def leaseTermsUptoCard : Claim7 := { stood := { row := leaseTermsUptoRow, standIns := [], harness := (true, "3089fb0d2a46d8787f016f041fce83ce34a0c1eccf0574dd1d1c9d09c3ce0095"), looks := true }, kinds := [], alts := [], laidByText := true, laidKinds := [.handle], laidTests := true, laidLooks := .later }
def LeaseTermsUptoCardSaid : Prop := Claim7.holds Tryd.pinned (.plain (OpenSpec.upto leaseTermsSpec)) leaseTermsUptoCard

/-- THE SECOND FORM's CARD OF 'flotillalaw17.LeaseKnown'. -/
def leaseKnownUptoCard : Claim7 := { stood := { row := leaseKnownUptoRow, standIns := [], harness := (true, "3089fb0d2a46d8787f016f041fce83ce34a0c1eccf0574dd1d1c9d09c3ce0095"), looks := true }, kinds := [], alts := [], laidByText := true, laidKinds := [.handle], laidTests := true, laidLooks := .later }
def LeaseKnownUptoCardSaid : Prop := Claim7.holds Tryd.pinned (.plain (OpenSpec.upto leaseKnownSpec)) leaseKnownUptoCard
end Rows
end Go.Proofs.YtfcbalmelaipdaaDoor
