/-
  No cell of these rows narrows 'for every input' (looked for: loops, veiled, ifaces, maps, wideKeys, modest, calm, conditions, laid).
  DERIVED. THE GIVEN ROWS OF THIS SEAT. 5 by the template 'for every input the law returns true; each argument reads behind the call as it read before'; 0 by the template 'total and deterministic' (their statements: YtcchccdbkpidpaaTotals.lean).
  GIVEN WITH THE SEED: the statements are not yours to turn. If you find one false, say at which input.
  Laid BY PROGRAM, IN A SANDBOX (cutbox-rows.mjs): the forced cells as the released guide's own fill.sh prints them over the translation e39351751119852e… (all of the seat's roots in one cut). By AI agents, Wed Nov 11 2026. No macro, syntax, notation, axiom, sorry.
-/
import Derived.Test.YtcchccdbkpidpaaChecked
import GoSem.Claim
import GoSem.ClaimJoined
import GoSem.ClaimMapViews
import Derived.JoinedTies
import Derived.KernelRfl
namespace Go.Proofs.Ytcchccdbkpidpaa
/- THE CELL 'sum', in the pinned program and in every row, IS THE sha256 OF THE DUMP (.gsa) THAT YtcchccdbkpidpaaProg.lean LOADS. Nothing in Lean hashes anything: it is a label: what it is worth is what the hold of that sum in a sandbox is worth. -/
noncomputable def Try.pinned : Pinned := { name := "ytcchccdbkpidpaa", sum := "e39351751119852ecb018ca202c8b2ab7c1ea89eba68e348252cdf6a61c252a0", checked := Try.checked }
namespace Rows
def none {H : Type} : Left H := { results := [], args := [] }

/-- 'flotillalaw16.RulesCounted': WHATEVER THE INPUT: true; the input reads as it did. -/
def rulesCountedSpec : ChangeSpec := { name := "rulesCounted", fn := fun _ => fun
  | [d1, d2] => { results := [.lit (.bool true)], args := [d1, d2] }
  | _ => none }
def rulesCountedRow : OpenClaim := { program := "ytcchccdbkpidpaa", sum := "e39351751119852ecb018ca202c8b2ab7c1ea89eba68e348252cdf6a61c252a0", func := "flotilla/flotillalaw16.RulesCounted", spec := "rulesCounted", unfollowed := true, recurses := true, apart := false }
def RulesCountedSaid : Prop := rulesCountedRow.holds Try.pinned (OpenSpec.ofChange rulesCountedSpec)

/-- ITS FALSE NEIGHBOUR: 'it returns false'. Refute it at one input. -/
def rulesCountedWrong : ChangeSpec := { name := "rulesCounted", fn := fun _ => fun
  | [d1, d2] => { results := [.lit (.bool false)], args := [d1, d2] }
  | _ => none }
def RulesCountedWrongFalsely : Prop := rulesCountedRow.holds Try.pinned (OpenSpec.ofChange rulesCountedWrong)

/-- 'flotillalaw16.RulesRoom': WHATEVER THE INPUT: true; the input reads as it did. -/
def rulesRoomSpec : ChangeSpec := { name := "rulesRoom", fn := fun _ => fun
  | [d1, d2, d3] => { results := [.lit (.bool true)], args := [d1, d2, d3] }
  | _ => none }
def rulesRoomRow : OpenClaim := { program := "ytcchccdbkpidpaa", sum := "e39351751119852ecb018ca202c8b2ab7c1ea89eba68e348252cdf6a61c252a0", func := "flotilla/flotillalaw16.RulesRoom", spec := "rulesRoom", unfollowed := true, recurses := true, apart := false }
def RulesRoomSaid : Prop := rulesRoomRow.holds Try.pinned (OpenSpec.ofChange rulesRoomSpec)

/-- ITS FALSE NEIGHBOUR: 'it returns false'. Refute it at one input. -/
def rulesRoomWrong : ChangeSpec := { name := "rulesRoom", fn := fun _ => fun
  | [d1, d2, d3] => { results := [.lit (.bool false)], args := [d1, d2, d3] }
  | _ => none }
def RulesRoomWrongFalsely : Prop := rulesRoomRow.holds Try.pinned (OpenSpec.ofChange rulesRoomWrong)

/-- 'flotillalaw16.RulesSurge': WHATEVER THE INPUT: true; the input reads as it did. -/
def rulesSurgeSpec : ChangeSpec := { name := "rulesSurge", fn := fun _ => fun
  | [d1, d2] => { results := [.lit (.bool true)], args := [d1, d2] }
  | _ => none }
def rulesSurgeRow : OpenClaim := { program := "ytcchccdbkpidpaa", sum := "e39351751119852ecb018ca202c8b2ab7c1ea89eba68e348252cdf6a61c252a0", func := "flotilla/flotillalaw16.RulesSurge", spec := "rulesSurge", unfollowed := true, recurses := true, apart := false }
def RulesSurgeSaid : Prop := rulesSurgeRow.holds Try.pinned (OpenSpec.ofChange rulesSurgeSpec)

/-- ITS FALSE NEIGHBOUR: 'it returns false'. Refute it at one input. -/
def rulesSurgeWrong : ChangeSpec := { name := "rulesSurge", fn := fun _ => fun
  | [d1, d2] => { results := [.lit (.bool false)], args := [d1, d2] }
  | _ => none }
def RulesSurgeWrongFalsely : Prop := rulesSurgeRow.holds Try.pinned (OpenSpec.ofChange rulesSurgeWrong)

/-- 'flotillalaw16.RulesKept': WHATEVER THE INPUT: true; the input reads as it did. -/
def rulesKeptSpec : ChangeSpec := { name := "rulesKept", fn := fun _ => fun
  | [d1, d2] => { results := [.lit (.bool true)], args := [d1, d2] }
  | _ => none }
def rulesKeptRow : OpenClaim := { program := "ytcchccdbkpidpaa", sum := "e39351751119852ecb018ca202c8b2ab7c1ea89eba68e348252cdf6a61c252a0", func := "flotilla/flotillalaw16.RulesKept", spec := "rulesKept", unfollowed := true, recurses := true, apart := false }
def RulesKeptSaid : Prop := rulesKeptRow.holds Try.pinned (OpenSpec.ofChange rulesKeptSpec)

/-- ITS FALSE NEIGHBOUR: 'it returns false'. Refute it at one input. -/
def rulesKeptWrong : ChangeSpec := { name := "rulesKept", fn := fun _ => fun
  | [d1, d2] => { results := [.lit (.bool false)], args := [d1, d2] }
  | _ => none }
def RulesKeptWrongFalsely : Prop := rulesKeptRow.holds Try.pinned (OpenSpec.ofChange rulesKeptWrong)

/-- 'flotillalaw16.RulesOthers': WHATEVER THE INPUT: true; the input reads as it did. -/
def rulesOthersSpec : ChangeSpec := { name := "rulesOthers", fn := fun _ => fun
  | [d1, d2, d3] => { results := [.lit (.bool true)], args := [d1, d2, d3] }
  | _ => none }
def rulesOthersRow : OpenClaim := { program := "ytcchccdbkpidpaa", sum := "e39351751119852ecb018ca202c8b2ab7c1ea89eba68e348252cdf6a61c252a0", func := "flotilla/flotillalaw16.RulesOthers", spec := "rulesOthers", inPlace := ["internal/reflectlite.TypeOf"], unfollowed := true, recurses := true, apart := false }
def RulesOthersSaid : Prop := rulesOthersRow.holds Try.pinned (OpenSpec.ofChange rulesOthersSpec)

/-- ITS FALSE NEIGHBOUR: 'it returns false'. Refute it at one input. -/
def rulesOthersWrong : ChangeSpec := { name := "rulesOthers", fn := fun _ => fun
  | [d1, d2, d3] => { results := [.lit (.bool false)], args := [d1, d2, d3] }
  | _ => none }
def RulesOthersWrongFalsely : Prop := rulesOthersRow.holds Try.pinned (OpenSpec.ofChange rulesOthersWrong)

/- THE SECOND FORM. 'bulk': how many values and letters a reading holds, each counted each time it is reached (what is shared counts as often as it is met; a slice's spare places count too). A statement '..UptoSaid' is the law's where the arguments, and the package variables that the reading takes, are together of bulk at most 1048576: NARROWER than '..Said'. Prove '..Said' where nothing that the law and all that it calls make is longer than what came in: it says more and counts as full. Else prove '..UptoSaid'. A law counts once. -/
mutual
def uptoBulk {H : Type} : DataW H → Nat
  | .lit (.string bytes) => bytes.length + 1
  | .lit _ => 1
  | .nil => 1
  | .ptr d => uptoBulk d + 1
  | .slice elems spare => uptoBulkAll elems + uptoBulkAll spare + 1
  | .agg parts => uptoBulkAll parts + 1
  | .iface _ d => uptoBulk d + 1
  | .map entries => uptoBulkEntries entries + 1
  | .held _ => 1
def uptoBulkAll {H : Type} : List (DataW H) → Nat
  | [] => 0
  | d :: r => uptoBulk d + uptoBulkAll r
def uptoBulkEntries {H : Type} : List (Lit × DataW H) → Nat
  | [] => 0
  | x :: r => uptoBulkEntry x + uptoBulkEntries r
def uptoBulkEntry {H : Type} : Lit × DataW H → Nat
  | (.string bytes, d) => bytes.length + uptoBulk d + 1
  | (_, d) => uptoBulk d + 1
 end
def uptoSmall : (H : Type) → List (DataW H) → Bool := fun _ ds => decide (uptoBulkAll ds ≤ 1048576)
def OpenSpec.upto (s : _root_.Go.ChangeSpec) : _root_.Go.OpenSpec := { _root_.Go.OpenSpec.ofChange s with cond := some uptoSmall }

/-- 'flotillalaw16.RulesCounted', WHERE WHAT IT READS IS OF BULK AT MOST 1048576: true; the input reads as it did. -/
def rulesCountedUptoRow : OpenClaim := { program := "ytcchccdbkpidpaa", sum := "e39351751119852ecb018ca202c8b2ab7c1ea89eba68e348252cdf6a61c252a0", func := "flotilla/flotillalaw16.RulesCounted", spec := "rulesCounted", unfollowed := true, recurses := true, apart := false, narrowed := true }
def RulesCountedUptoSaid : Prop := rulesCountedUptoRow.holds Try.pinned (OpenSpec.upto rulesCountedSpec)

/-- 'flotillalaw16.RulesRoom', WHERE WHAT IT READS IS OF BULK AT MOST 1048576: true; the input reads as it did. -/
def rulesRoomUptoRow : OpenClaim := { program := "ytcchccdbkpidpaa", sum := "e39351751119852ecb018ca202c8b2ab7c1ea89eba68e348252cdf6a61c252a0", func := "flotilla/flotillalaw16.RulesRoom", spec := "rulesRoom", unfollowed := true, recurses := true, apart := false, narrowed := true }
def RulesRoomUptoSaid : Prop := rulesRoomUptoRow.holds Try.pinned (OpenSpec.upto rulesRoomSpec)

/-- 'flotillalaw16.RulesSurge', WHERE WHAT IT READS IS OF BULK AT MOST 1048576: true; the input reads as it did. -/
def rulesSurgeUptoRow : OpenClaim := { program := "ytcchccdbkpidpaa", sum := "e39351751119852ecb018ca202c8b2ab7c1ea89eba68e348252cdf6a61c252a0", func := "flotilla/flotillalaw16.RulesSurge", spec := "rulesSurge", unfollowed := true, recurses := true, apart := false, narrowed := true }
def RulesSurgeUptoSaid : Prop := rulesSurgeUptoRow.holds Try.pinned (OpenSpec.upto rulesSurgeSpec)

/-- 'flotillalaw16.RulesKept', WHERE WHAT IT READS IS OF BULK AT MOST 1048576: true; the input reads as it did. -/
def rulesKeptUptoRow : OpenClaim := { program := "ytcchccdbkpidpaa", sum := "e39351751119852ecb018ca202c8b2ab7c1ea89eba68e348252cdf6a61c252a0", func := "flotilla/flotillalaw16.RulesKept", spec := "rulesKept", unfollowed := true, recurses := true, apart := false, narrowed := true }
def RulesKeptUptoSaid : Prop := rulesKeptUptoRow.holds Try.pinned (OpenSpec.upto rulesKeptSpec)

/-- 'flotillalaw16.RulesOthers', WHERE WHAT IT READS IS OF BULK AT MOST 1048576: true; the input reads as it did. -/
def rulesOthersUptoRow : OpenClaim := { program := "ytcchccdbkpidpaa", sum := "e39351751119852ecb018ca202c8b2ab7c1ea89eba68e348252cdf6a61c252a0", func := "flotilla/flotillalaw16.RulesOthers", spec := "rulesOthers", inPlace := ["internal/reflectlite.TypeOf"], unfollowed := true, recurses := true, apart := false, narrowed := true }
def RulesOthersUptoSaid : Prop := rulesOthersUptoRow.holds Try.pinned (OpenSpec.upto rulesOthersSpec)

end Rows
end Go.Proofs.Ytcchccdbkpidpaa
