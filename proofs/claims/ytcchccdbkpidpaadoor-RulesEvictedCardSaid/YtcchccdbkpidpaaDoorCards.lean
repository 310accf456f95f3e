/-
  DERIVED. GIVEN WITH THE SEED: THE CARDS: each row of YtcchccdbkpidpaaDoorRows.lean that lists a variable, with what it lists TIED to the program's text (the seventh form; the later family's looks); each row that meets fmt, with fmt's text TOLD by the authors' own Lean function (tested against real Go, not proved from fmt's source: count such statements apart). THE CARD IS WHAT COUNTS. Prove the row's statement (the work); the ties are given (YtcchccdbkpidpaaDoorTie.lean); close each card by the builder's one call (the guide's Derived/Test/ToyasCard.lean, 'card_holds'). Laid BY PROGRAM, IN A SANDBOX (cutbox-door.mjs). By AI agents, Wed Nov 11 2026. No macro, syntax, notation, axiom, sorry.
-/
import Derived.Test.YtcchccdbkpidpaaDoorRows
import GoSem.ClaimSeven
namespace Go.Proofs.YtcchccdbkpidpaaDoor
namespace Rows

/-- THE TIED CARD OF 'flotillalaw16.RulesSpawned'. -/
def rulesSpawnedCard : Claim7 := { stood := { row := rulesSpawnedRow, standIns := [], harness := (true, "44473acb2f3280a98dfbfef774e6892d0d3f94cd589b1cb4363b637f2469f72c"), looks := true }, kinds := [], alts := [], laidByText := true, laidKinds := [.handle], laidTests := true, laidLooks := .later }
def RulesSpawnedCardSaid : Prop := Claim7.holds Tryd.pinned (.plain (OpenSpec.ofChange rulesSpawnedSpec)) rulesSpawnedCard

/-- THE TIED CARD OF 'flotillalaw16.RulesBound'. -/
def rulesBoundCard : Claim7 := { stood := { row := rulesBoundRow, standIns := [], harness := (true, "44473acb2f3280a98dfbfef774e6892d0d3f94cd589b1cb4363b637f2469f72c"), looks := true }, kinds := [], alts := [], laidByText := true, laidKinds := [.handle], laidTests := true, laidLooks := .later }
def RulesBoundCardSaid : Prop := Claim7.holds Tryd.pinned (.plain (OpenSpec.ofChange rulesBoundSpec)) rulesBoundCard

/-- THE TIED CARD OF 'flotillalaw16.RulesSound'. -/
def rulesSoundCard : Claim7 := { stood := { row := rulesSoundRow, standIns := [], harness := (true, "44473acb2f3280a98dfbfef774e6892d0d3f94cd589b1cb4363b637f2469f72c"), looks := true }, kinds := [], alts := [], laidByText := true, laidKinds := [.handle], laidTests := true, laidLooks := .later }
def RulesSoundCardSaid : Prop := Claim7.holds Tryd.pinned (.plain (OpenSpec.ofChange rulesSoundSpec)) rulesSoundCard

/-- THE TIED CARD OF 'flotillalaw16.RulesEvicted'. -/
def rulesEvictedCard : Claim7 := { stood := { row := rulesEvictedRow, standIns := [], harness := (true, "44473acb2f3280a98dfbfef774e6892d0d3f94cd589b1cb4363b637f2469f72c"), looks := true }, kinds := [], alts := [], laidByText := true, laidKinds := [.handle], laidTests := true, laidLooks := .later }
def RulesEvictedCardSaid : Prop := Claim7.holds Tryd.pinned (.plain (OpenSpec.ofChange rulesEvictedSpec)) rulesEvictedCard

/-- THE SECOND FORM's CARD OF 'flotillalaw16.RulesSpawned'. -/
def rulesSpawnedUptoCard : Claim7 := { stood := { row := rulesSpawnedUptoRow, standIns := [], harness := (true, "44473acb2f3280a98dfbfef774e6892d0d3f94cd589b1cb4363b637f2469f72c"), looks := true }, kinds := [], alts := [], laidByText := true, laidKinds := [.handle], laidTests := true, laidLooks := .later }
def RulesSpawnedUptoCardSaid : Prop := Claim7.holds Tryd.pinned (.plain (OpenSpec.upto rulesSpawnedSpec)) rulesSpawnedUptoCard

/-- THE SECOND FORM's CARD OF 'flotillalaw16.RulesBound'. -/
def rulesBoundUptoCard : Claim7 := { stood := { row := rulesBoundUptoRow, standIns := [], harness := (true, "44473acb2f3280a98dfbfef774e6892d0d3f94cd589b1cb4363b637f2469f72c"), looks := true }, kinds := [], alts := [], laidByText := true, laidKinds := [.handle], laidTests := true, laidLooks := .later }
def RulesBoundUptoCardSaid : Prop := Claim7.holds Tryd.pinned (.plain (OpenSpec.upto rulesBoundSpec)) rulesBoundUptoCard

/-- THE SECOND FORM's CARD OF 'flotillalaw16.RulesSound'. -/
def rulesSoundUptoCard : Claim7 := { stood := { row := rulesSoundUptoRow, standIns := [], harness := (true, "44473acb2f3280a98dfbfef774e6892d0d3f94cd589b1cb4363b637f2469f72c"), looks := true }, kinds := [], alts := [], laidByText := true, laidKinds := [.handle], laidTests := true, laidLooks := .later }
def RulesSoundUptoCardSaid : Prop := Claim7.holds Tryd.pinned (.plain (OpenSpec.upto rulesSoundSpec)) rulesSoundUptoCard

/-- THE SECOND FORM's CARD OF 'flotillalaw16.RulesEvicted'. -/
def rulesEvictedUptoCard : Claim7 := { stood := { row := rulesEvictedUptoRow, standIns := [], harness := (true, "44473acb2f3280a98dfbfef774e6892d0d3f94cd589b1cb4363b637f2469f72c"), looks := true }, kinds := [], alts := [], laidByText := true, laidKinds := [.handle], laidTests := true, laidLooks := .later }
def RulesEvictedUptoCardSaid : Prop := Claim7.holds Tryd.pinned (.plain (OpenSpec.upto rulesEvictedSpec)) rulesEvictedUptoCard
end Rows
end Go.Proofs.YtcchccdbkpidpaaDoor
