/-
  No cell of these rows narrows 'for every input' (looked for: loops, veiled, ifaces, maps, wideKeys, modest, calm, conditions, laid).
  DERIVED. THE GIVEN ROWS OF THIS SEAT. 6 by the template 'for every input the law returns true; each argument reads behind the call as it read before'; 0 by the template 'total and deterministic' (their statements: YtnoaglgjhgnnfaaTotals.lean).
  GIVEN WITH THE SEED: the statements are not yours to turn. If you find one false, say at which input.
  Laid BY PROGRAM, IN A SANDBOX (cutbox-rows.mjs): the forced cells as the released guide's own fill.sh prints them over the translation 881b5bb2a5017d10… (all of the seat's roots in one cut). By AI agents, Wed Nov 11 2026. No macro, syntax, notation, axiom, sorry.
-/
import Derived.Test.YtnoaglgjhgnnfaaChecked
import GoSem.Claim
import GoSem.ClaimJoined
import GoSem.ClaimMapViews
import Derived.JoinedTies
import Derived.KernelRfl
namespace Go.Proofs.Ytnoaglgjhgnnfaa
/- THE CELL 'sum', in the pinned program and in every row, IS THE sha256 OF THE DUMP (.gsa) THAT YtnoaglgjhgnnfaaProg.lean LOADS. Nothing in Lean hashes anything: it is a label: what it is worth is what the hold of that sum in a sandbox is worth. -/
noncomputable def Try.pinned : Pinned := { name := "ytnoaglgjhgnnfaa", sum := "881b5bb2a5017d1091e7480766e5eb7e5915d1cd2230ea641df2a209be3509d3", checked := Try.checked }
namespace Rows
def none {H : Type} : Left H := { results := [], args := [] }

/-- 'flotillalaw26.RollAsked': WHATEVER THE INPUT: true; the input reads as it did. -/
def rollAskedSpec : ChangeSpec := { name := "rollAsked", fn := fun _ => fun
  | [d1, d2, d3] => { results := [.lit (.bool true)], args := [d1, d2, d3] }
  | _ => none }
def rollAskedRow : OpenClaim := { program := "ytnoaglgjhgnnfaa", sum := "881b5bb2a5017d1091e7480766e5eb7e5915d1cd2230ea641df2a209be3509d3", func := "flotilla/flotillalaw26.RollAsked", spec := "rollAsked", unfollowed := true, recurses := true, apart := false }
def RollAskedSaid : Prop := rollAskedRow.holds Try.pinned (OpenSpec.ofChange rollAskedSpec)

/-- ITS FALSE NEIGHBOUR: 'it returns false'. Refute it at one input. -/
def rollAskedWrong : ChangeSpec := { name := "rollAsked", fn := fun _ => fun
  | [d1, d2, d3] => { results := [.lit (.bool false)], args := [d1, d2, d3] }
  | _ => none }
def RollAskedWrongFalsely : Prop := rollAskedRow.holds Try.pinned (OpenSpec.ofChange rollAskedWrong)

/-- 'flotillalaw26.RollSurge': WHATEVER THE INPUT: true; the input reads as it did. -/
def rollSurgeSpec : ChangeSpec := { name := "rollSurge", fn := fun _ => fun
  | [d1, d2, d3] => { results := [.lit (.bool true)], args := [d1, d2, d3] }
  | _ => none }
def rollSurgeRow : OpenClaim := { program := "ytnoaglgjhgnnfaa", sum := "881b5bb2a5017d1091e7480766e5eb7e5915d1cd2230ea641df2a209be3509d3", func := "flotilla/flotillalaw26.RollSurge", spec := "rollSurge", unfollowed := true, recurses := true, apart := false }
def RollSurgeSaid : Prop := rollSurgeRow.holds Try.pinned (OpenSpec.ofChange rollSurgeSpec)

/-- ITS FALSE NEIGHBOUR: 'it returns false'. Refute it at one input. -/
def rollSurgeWrong : ChangeSpec := { name := "rollSurge", fn := fun _ => fun
  | [d1, d2, d3] => { results := [.lit (.bool false)], args := [d1, d2, d3] }
  | _ => none }
def RollSurgeWrongFalsely : Prop := rollSurgeRow.holds Try.pinned (OpenSpec.ofChange rollSurgeWrong)

/-- 'flotillalaw26.RollEnds': WHATEVER THE INPUT: true; the input reads as it did. -/
def rollEndsSpec : ChangeSpec := { name := "rollEnds", fn := fun _ => fun
  | [d1, d2, d3] => { results := [.lit (.bool true)], args := [d1, d2, d3] }
  | _ => none }
def rollEndsRow : OpenClaim := { program := "ytnoaglgjhgnnfaa", sum := "881b5bb2a5017d1091e7480766e5eb7e5915d1cd2230ea641df2a209be3509d3", func := "flotilla/flotillalaw26.RollEnds", spec := "rollEnds", unfollowed := true, recurses := true, apart := false }
def RollEndsSaid : Prop := rollEndsRow.holds Try.pinned (OpenSpec.ofChange rollEndsSpec)

/-- ITS FALSE NEIGHBOUR: 'it returns false'. Refute it at one input. -/
def rollEndsWrong : ChangeSpec := { name := "rollEnds", fn := fun _ => fun
  | [d1, d2, d3] => { results := [.lit (.bool false)], args := [d1, d2, d3] }
  | _ => none }
def RollEndsWrongFalsely : Prop := rollEndsRow.holds Try.pinned (OpenSpec.ofChange rollEndsWrong)

/-- 'flotillalaw26.RollGoes': WHATEVER THE INPUT: true; the input reads as it did. -/
def rollGoesSpec : ChangeSpec := { name := "rollGoes", fn := fun _ => fun
  | [d1, d2, d3] => { results := [.lit (.bool true)], args := [d1, d2, d3] }
  | _ => none }
def rollGoesRow : OpenClaim := { program := "ytnoaglgjhgnnfaa", sum := "881b5bb2a5017d1091e7480766e5eb7e5915d1cd2230ea641df2a209be3509d3", func := "flotilla/flotillalaw26.RollGoes", spec := "rollGoes", unfollowed := true, recurses := true, apart := false }
def RollGoesSaid : Prop := rollGoesRow.holds Try.pinned (OpenSpec.ofChange rollGoesSpec)

/-- ITS FALSE NEIGHBOUR: 'it returns false'. Refute it at one input. -/
def rollGoesWrong : ChangeSpec := { name := "rollGoes", fn := fun _ => fun
  | [d1, d2, d3] => { results := [.lit (.bool false)], args := [d1, d2, d3] }
  | _ => none }
def RollGoesWrongFalsely : Prop := rollGoesRow.holds Try.pinned (OpenSpec.ofChange rollGoesWrong)

/-- 'flotillalaw26.RollOthers': WHATEVER THE INPUT: true; the input reads as it did. -/
def rollOthersSpec : ChangeSpec := { name := "rollOthers", fn := fun _ => fun
  | [d1, d2, d3] => { results := [.lit (.bool true)], args := [d1, d2, d3] }
  | _ => none }
def rollOthersRow : OpenClaim := { program := "ytnoaglgjhgnnfaa", sum := "881b5bb2a5017d1091e7480766e5eb7e5915d1cd2230ea641df2a209be3509d3", func := "flotilla/flotillalaw26.RollOthers", spec := "rollOthers", unfollowed := true, recurses := true, apart := false }
def RollOthersSaid : Prop := rollOthersRow.holds Try.pinned (OpenSpec.ofChange rollOthersSpec)

/-- ITS FALSE NEIGHBOUR: 'it returns false'. Refute it at one input. -/
def rollOthersWrong : ChangeSpec := { name := "rollOthers", fn := fun _ => fun
  | [d1, d2, d3] => { results := [.lit (.bool false)], args := [d1, d2, d3] }
  | _ => none }
def RollOthersWrongFalsely : Prop := rollOthersRow.holds Try.pinned (OpenSpec.ofChange rollOthersWrong)

/-- 'flotillalaw26.RollPlanned': WHATEVER THE INPUT: true; the input reads as it did. -/
def rollPlannedSpec : ChangeSpec := { name := "rollPlanned", fn := fun _ => fun
  | [d1, d2] => { results := [.lit (.bool true)], args := [d1, d2] }
  | _ => none }
def rollPlannedRow : OpenClaim := { program := "ytnoaglgjhgnnfaa", sum := "881b5bb2a5017d1091e7480766e5eb7e5915d1cd2230ea641df2a209be3509d3", func := "flotilla/flotillalaw26.RollPlanned", spec := "rollPlanned", unfollowed := true, recurses := true, apart := false }
def RollPlannedSaid : Prop := rollPlannedRow.holds Try.pinned (OpenSpec.ofChange rollPlannedSpec)

/-- ITS FALSE NEIGHBOUR: 'it returns false'. Refute it at one input. -/
def rollPlannedWrong : ChangeSpec := { name := "rollPlanned", fn := fun _ => fun
  | [d1, d2] => { results := [.lit (.bool false)], args := [d1, d2] }
  | _ => none }
def RollPlannedWrongFalsely : Prop := rollPlannedRow.holds Try.pinned (OpenSpec.ofChange rollPlannedWrong)

/- THE SECOND FORM. 'bulk': how many values and letters a reading holds, each counted each time it is reached (what is shared counts as often as it is met; a slice's spare places count too). A statement '..UptoSaid' is the law's where the arguments, and the package variables that the reading takes, are together of bulk at most 1048576: NARROWER than '..Said'. Prove '..Said' where nothing that the law and all that it calls make is longer than what came in: it says more and counts as full. Else prove '..UptoSaid'. A law counts once. -/
mutual
def uptoBulk {H : Type} : DataW H → Nat
  | .lit (.string bytes) => bytes.length + 1
  | .lit _ => 1
  | .nil => 1
  | .ptr d => uptoBulk d + 1
  | .slice elems spare => uptoBulkAll elems + uptoBulkAll spare + 1
  | .agg parts => uptoBulkAll parts + 1
  | .iface _ d => uptoBulk d + 1
  | .map entries => uptoBulkEntries entries + 1
  | .held _ => 1
def uptoBulkAll {H : Type} : List (DataW H) → Nat
  | [] => 0
  | d :: r => uptoBulk d + uptoBulkAll r
def uptoBulkEntries {H : Type} : List (Lit × DataW H) → Nat
  | [] => 0
  | x :: r => uptoBulkEntry x + uptoBulkEntries r
def uptoBulkEntry {H : Type} : Lit × DataW H → Nat
  | (.string bytes, d) => bytes.length + uptoBulk d + 1
  | (_, d) => uptoBulk d + 1
 end
def uptoSmall : (H : Type) → List (DataW H) → Bool := fun _ ds => decide (uptoBulkAll ds ≤ 1048576)
def OpenSpec.upto (s : _root_.Go.ChangeSpec) : _root_.Go.OpenSpec := { _root_.Go.OpenSpec.ofChange s with cond := some uptoSmall }

/-- 'flotillalaw26.RollAsked', WHERE WHAT IT READS IS OF BULK AT MOST 1048576: true; the input reads as it did. -/
def rollAskedUptoRow : OpenClaim := { program := "ytnoaglgjhgnnfaa", sum := "881b5bb2a5017d1091e7480766e5eb7e5915d1cd2230ea641df2a209be3509d3", func := "flotilla/flotillalaw26.RollAsked", spec := "rollAsked", unfollowed := true, recurses := true, apart := false, narrowed := true }
def RollAskedUptoSaid : Prop := rollAskedUptoRow.holds Try.pinned (OpenSpec.upto rollAskedSpec)

/-- 'flotillalaw26.RollSurge', WHERE WHAT IT READS IS OF BULK AT MOST 1048576: true; the input reads as it did. -/
def rollSurgeUptoRow : OpenClaim := { program := "ytnoaglgjhgnnfaa", sum := "881b5bb2a5017d1091e7480766e5eb7e5915d1cd2230ea641df2a209be3509d3", func := "flotilla/flotillalaw26.RollSurge", spec := "rollSurge", unfollowed := true, recurses := true, apart := false, narrowed := true }
def RollSurgeUptoSaid : Prop := rollSurgeUptoRow.holds Try.pinned (OpenSpec.upto rollSurgeSpec)

/-- 'flotillalaw26.RollEnds', WHERE WHAT IT READS IS OF BULK AT MOST 1048576: true; the input reads as it did. -/
def rollEndsUptoRow : OpenClaim := { program := "ytnoaglgjhgnnfaa", sum := "881b5bb2a5017d1091e7480766e5eb7e5915d1cd2230ea641df2a209be3509d3", func := "flotilla/flotillalaw26.RollEnds", spec := "rollEnds", unfollowed := true, recurses := true, apart := false, narrowed := true }
def RollEndsUptoSaid : Prop := rollEndsUptoRow.holds Try.pinned (OpenSpec.upto rollEndsSpec)

/-- 'flotillalaw26.RollGoes', WHERE WHAT IT READS IS OF BULK AT MOST 1048576: true; the input reads as it did. -/
def rollGoesUptoRow : OpenClaim := { program := "ytnoaglgjhgnnfaa", sum := "881b5bb2a5017d1091e7480766e5eb7e5915d1cd2230ea641df2a209be3509d3", func := "flotilla/flotillalaw26.RollGoes", spec := "rollGoes", unfollowed := true, recurses := true, apart := false, narrowed := true }
def RollGoesUptoSaid : Prop := rollGoesUptoRow.holds Try.pinned (OpenSpec.upto rollGoesSpec)

/-- 'flotillalaw26.RollOthers', WHERE WHAT IT READS IS OF BULK AT MOST 1048576: true; the input reads as it did. -/
def rollOthersUptoRow : OpenClaim := { program := "ytnoaglgjhgnnfaa", sum := "881b5bb2a5017d1091e7480766e5eb7e5915d1cd2230ea641df2a209be3509d3", func := "flotilla/flotillalaw26.RollOthers", spec := "rollOthers", unfollowed := true, recurses := true, apart := false, narrowed := true }
def RollOthersUptoSaid : Prop := rollOthersUptoRow.holds Try.pinned (OpenSpec.upto rollOthersSpec)

/-- 'flotillalaw26.RollPlanned', WHERE WHAT IT READS IS OF BULK AT MOST 1048576: true; the input reads as it did. -/
def rollPlannedUptoRow : OpenClaim := { program := "ytnoaglgjhgnnfaa", sum := "881b5bb2a5017d1091e7480766e5eb7e5915d1cd2230ea641df2a209be3509d3", func := "flotilla/flotillalaw26.RollPlanned", spec := "rollPlanned", unfollowed := true, recurses := true, apart := false, narrowed := true }
def RollPlannedUptoSaid : Prop := rollPlannedUptoRow.holds Try.pinned (OpenSpec.upto rollPlannedSpec)

end Rows
end Go.Proofs.Ytnoaglgjhgnnfaa
