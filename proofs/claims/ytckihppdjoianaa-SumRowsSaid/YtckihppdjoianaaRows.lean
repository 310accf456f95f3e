/-
  No cell of these rows narrows 'for every input' (looked for: loops, veiled, ifaces, maps, wideKeys, modest, calm, conditions, laid).
  DERIVED. THE GIVEN ROWS OF THIS SEAT. 5 by the template 'for every input the law returns true; each argument reads behind the call as it read before'; 0 by the template 'total and deterministic' (their statements: YtckihppdjoianaaTotals.lean).
  GIVEN WITH THE SEED: the statements are not yours to turn. If you find one false, say at which input.
  Laid BY PROGRAM, IN A SANDBOX (cutbox-rows.mjs): the forced cells as the released guide's own fill.sh prints them over the translation 17cb176c09faf74c… (all of the seat's roots in one cut). By AI agents, Wed Nov 11 2026. No macro, syntax, notation, axiom, sorry.
-/
import Derived.Test.YtckihppdjoianaaChecked
import GoSem.Claim
import GoSem.ClaimJoined
import GoSem.ClaimMapViews
import Derived.JoinedTies
import Derived.KernelRfl
namespace Go.Proofs.Ytckihppdjoianaa
/- THE CELL 'sum', in the pinned program and in every row, IS THE sha256 OF THE DUMP (.gsa) THAT YtckihppdjoianaaProg.lean LOADS. Nothing in Lean hashes anything: it is a label: what it is worth is what the hold of that sum in a sandbox is worth. -/
noncomputable def Try.pinned : Pinned := { name := "ytckihppdjoianaa", sum := "17cb176c09faf74c74de5c367ae5f8d0ce0315d1ff884a3ed04db7f5e641dd1c", checked := Try.checked }
namespace Rows
def none {H : Type} : Left H := { results := [], args := [] }

/-- 'flotillalaw04.SumCounted': WHATEVER THE INPUT: true; the input reads as it did. -/
def sumCountedSpec : ChangeSpec := { name := "sumCounted", fn := fun _ => fun
  | [d1, d2] => { results := [.lit (.bool true)], args := [d1, d2] }
  | _ => none }
def sumCountedRow : OpenClaim := { program := "ytckihppdjoianaa", sum := "17cb176c09faf74c74de5c367ae5f8d0ce0315d1ff884a3ed04db7f5e641dd1c", func := "flotilla/flotillalaw04.SumCounted", spec := "sumCounted", apart := false }
def SumCountedSaid : Prop := sumCountedRow.holds Try.pinned (OpenSpec.ofChange sumCountedSpec)

/-- ITS FALSE NEIGHBOUR: 'it returns false'. Refute it at one input. -/
def sumCountedWrong : ChangeSpec := { name := "sumCounted", fn := fun _ => fun
  | [d1, d2] => { results := [.lit (.bool false)], args := [d1, d2] }
  | _ => none }
def SumCountedWrongFalsely : Prop := sumCountedRow.holds Try.pinned (OpenSpec.ofChange sumCountedWrong)

/-- 'flotillalaw04.SumSeen': WHATEVER THE INPUT: true; the input reads as it did. -/
def sumSeenSpec : ChangeSpec := { name := "sumSeen", fn := fun _ => fun
  | [d1, d2, d3] => { results := [.lit (.bool true)], args := [d1, d2, d3] }
  | _ => none }
def sumSeenRow : OpenClaim := { program := "ytckihppdjoianaa", sum := "17cb176c09faf74c74de5c367ae5f8d0ce0315d1ff884a3ed04db7f5e641dd1c", func := "flotilla/flotillalaw04.SumSeen", spec := "sumSeen", apart := false }
def SumSeenSaid : Prop := sumSeenRow.holds Try.pinned (OpenSpec.ofChange sumSeenSpec)

/-- ITS FALSE NEIGHBOUR: 'it returns false'. Refute it at one input. -/
def sumSeenWrong : ChangeSpec := { name := "sumSeen", fn := fun _ => fun
  | [d1, d2, d3] => { results := [.lit (.bool false)], args := [d1, d2, d3] }
  | _ => none }
def SumSeenWrongFalsely : Prop := sumSeenRow.holds Try.pinned (OpenSpec.ofChange sumSeenWrong)

/-- 'flotillalaw04.SumRows': WHATEVER THE INPUT: true; the input reads as it did. -/
def sumRowsSpec : ChangeSpec := { name := "sumRows", fn := fun _ => fun
  | [d1, d2] => { results := [.lit (.bool true)], args := [d1, d2] }
  | _ => none }
def sumRowsRow : OpenClaim := { program := "ytckihppdjoianaa", sum := "17cb176c09faf74c74de5c367ae5f8d0ce0315d1ff884a3ed04db7f5e641dd1c", func := "flotilla/flotillalaw04.SumRows", spec := "sumRows", apart := false }
def SumRowsSaid : Prop := sumRowsRow.holds Try.pinned (OpenSpec.ofChange sumRowsSpec)

/-- ITS FALSE NEIGHBOUR: 'it returns false'. Refute it at one input. -/
def sumRowsWrong : ChangeSpec := { name := "sumRows", fn := fun _ => fun
  | [d1, d2] => { results := [.lit (.bool false)], args := [d1, d2] }
  | _ => none }
def SumRowsWrongFalsely : Prop := sumRowsRow.holds Try.pinned (OpenSpec.ofChange sumRowsWrong)

/-- 'flotillalaw04.SumThree': WHATEVER THE INPUT: true; the input reads as it did. -/
def sumThreeSpec : ChangeSpec := { name := "sumThree", fn := fun _ => fun
  | [d] => { results := [.lit (.bool true)], args := [d] }
  | _ => none }
def sumThreeRow : OpenClaim := { program := "ytckihppdjoianaa", sum := "17cb176c09faf74c74de5c367ae5f8d0ce0315d1ff884a3ed04db7f5e641dd1c", func := "flotilla/flotillalaw04.SumThree", spec := "sumThree", apart := false }
def SumThreeSaid : Prop := sumThreeRow.holds Try.pinned (OpenSpec.ofChange sumThreeSpec)

/-- ITS FALSE NEIGHBOUR: 'it returns false'. Refute it at one input. -/
def sumThreeWrong : ChangeSpec := { name := "sumThree", fn := fun _ => fun
  | [d] => { results := [.lit (.bool false)], args := [d] }
  | _ => none }
def SumThreeWrongFalsely : Prop := sumThreeRow.holds Try.pinned (OpenSpec.ofChange sumThreeWrong)

/-- 'flotillalaw04.SumNone': WHATEVER THE INPUT: true; the input reads as it did. -/
def sumNoneSpec : ChangeSpec := { name := "sumNone", fn := fun _ => fun
  | [d1, d2] => { results := [.lit (.bool true)], args := [d1, d2] }
  | _ => none }
def sumNoneRow : OpenClaim := { program := "ytckihppdjoianaa", sum := "17cb176c09faf74c74de5c367ae5f8d0ce0315d1ff884a3ed04db7f5e641dd1c", func := "flotilla/flotillalaw04.SumNone", spec := "sumNone", apart := false }
def SumNoneSaid : Prop := sumNoneRow.holds Try.pinned (OpenSpec.ofChange sumNoneSpec)

/-- ITS FALSE NEIGHBOUR: 'it returns false'. Refute it at one input. -/
def sumNoneWrong : ChangeSpec := { name := "sumNone", fn := fun _ => fun
  | [d1, d2] => { results := [.lit (.bool false)], args := [d1, d2] }
  | _ => none }
def SumNoneWrongFalsely : Prop := sumNoneRow.holds Try.pinned (OpenSpec.ofChange sumNoneWrong)

/- THE SECOND FORM. 'bulk': how many values and letters a reading holds, each counted each time it is reached (what is shared counts as often as it is met; a slice's spare places count too). A statement '..UptoSaid' is the law's where the arguments, and the package variables that the reading takes, are together of bulk at most 1048576: NARROWER than '..Said'. Prove '..Said' where nothing that the law and all that it calls make is longer than what came in: it says more and counts as full. Else prove '..UptoSaid'. A law counts once. -/
mutual
def uptoBulk {H : Type} : DataW H → Nat
  | .lit (.string bytes) => bytes.length + 1
  | .lit _ => 1
  | .nil => 1
  | .ptr d => uptoBulk d + 1
  | .slice elems spare => uptoBulkAll elems + uptoBulkAll spare + 1
  | .agg parts => uptoBulkAll parts + 1
  | .iface _ d => uptoBulk d + 1
  | .map entries => uptoBulkEntries entries + 1
  | .held _ => 1
def uptoBulkAll {H : Type} : List (DataW H) → Nat
  | [] => 0
  | d :: r => uptoBulk d + uptoBulkAll r
def uptoBulkEntries {H : Type} : List (Lit × DataW H) → Nat
  | [] => 0
  | x :: r => uptoBulkEntry x + uptoBulkEntries r
def uptoBulkEntry {H : Type} : Lit × DataW H → Nat
  | (.string bytes, d) => bytes.length + uptoBulk d + 1
  | (_, d) => uptoBulk d + 1
 end
def uptoSmall : (H : Type) → List (DataW H) → Bool := fun _ ds => decide (uptoBulkAll ds ≤ 1048576)
def OpenSpec.upto (s : _root_.Go.ChangeSpec) : _root_.Go.OpenSpec := { _root_.Go.OpenSpec.ofChange s with cond := some uptoSmall }

/-- 'flotillalaw04.SumCounted', WHERE WHAT IT READS IS OF BULK AT MOST 1048576: true; the input reads as it did. -/
def sumCountedUptoRow : OpenClaim := { program := "ytckihppdjoianaa", sum := "17cb176c09faf74c74de5c367ae5f8d0ce0315d1ff884a3ed04db7f5e641dd1c", func := "flotilla/flotillalaw04.SumCounted", spec := "sumCounted", apart := false, narrowed := true }
def SumCountedUptoSaid : Prop := sumCountedUptoRow.holds Try.pinned (OpenSpec.upto sumCountedSpec)

/-- 'flotillalaw04.SumSeen', WHERE WHAT IT READS IS OF BULK AT MOST 1048576: true; the input reads as it did. -/
def sumSeenUptoRow : OpenClaim := { program := "ytckihppdjoianaa", sum := "17cb176c09faf74c74de5c367ae5f8d0ce0315d1ff884a3ed04db7f5e641dd1c", func := "flotilla/flotillalaw04.SumSeen", spec := "sumSeen", apart := false, narrowed := true }
def SumSeenUptoSaid : Prop := sumSeenUptoRow.holds Try.pinned (OpenSpec.upto sumSeenSpec)

/-- 'flotillalaw04.SumRows', WHERE WHAT IT READS IS OF BULK AT MOST 1048576: true; the input reads as it did. -/
def sumRowsUptoRow : OpenClaim := { program := "ytckihppdjoianaa", sum := "17cb176c09faf74c74de5c367ae5f8d0ce0315d1ff884a3ed04db7f5e641dd1c", func := "flotilla/flotillalaw04.SumRows", spec := "sumRows", apart := false, narrowed := true }
def SumRowsUptoSaid : Prop := sumRowsUptoRow.holds Try.pinned (OpenSpec.upto sumRowsSpec)

/-- 'flotillalaw04.SumThree', WHERE WHAT IT READS IS OF BULK AT MOST 1048576: true; the input reads as it did. -/
def sumThreeUptoRow : OpenClaim := { program := "ytckihppdjoianaa", sum := "17cb176c09faf74c74de5c367ae5f8d0ce0315d1ff884a3ed04db7f5e641dd1c", func := "flotilla/flotillalaw04.SumThree", spec := "sumThree", apart := false, narrowed := true }
def SumThreeUptoSaid : Prop := sumThreeUptoRow.holds Try.pinned (OpenSpec.upto sumThreeSpec)

/-- 'flotillalaw04.SumNone', WHERE WHAT IT READS IS OF BULK AT MOST 1048576: true; the input reads as it did. -/
def sumNoneUptoRow : OpenClaim := { program := "ytckihppdjoianaa", sum := "17cb176c09faf74c74de5c367ae5f8d0ce0315d1ff884a3ed04db7f5e641dd1c", func := "flotilla/flotillalaw04.SumNone", spec := "sumNone", apart := false, narrowed := true }
def SumNoneUptoSaid : Prop := sumNoneUptoRow.holds Try.pinned (OpenSpec.upto sumNoneSpec)

end Rows
end Go.Proofs.Ytckihppdjoianaa
