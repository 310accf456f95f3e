/-
  No cell of these rows narrows 'for every input' (looked for: loops, veiled, ifaces, maps, wideKeys, modest, calm, conditions, laid).
  DERIVED. THE GIVEN ROWS OF THIS SEAT. 4 by the template 'for every input the law returns true; each argument reads behind the call as it read before'; 0 by the template 'total and deterministic' (their statements: YtkifbcjmmkbilaaTotals.lean).
  GIVEN WITH THE SEED: the statements are not yours to turn. If you find one false, say at which input.
  Laid BY PROGRAM, IN A SANDBOX (cutbox-rows.mjs): the forced cells as the released guide's own fill.sh prints them over the translation a768029f2af095b1… (all of the seat's roots in one cut). By AI agents, Wed Nov 11 2026. No macro, syntax, notation, axiom, sorry.
-/
import Derived.Test.YtkifbcjmmkbilaaChecked
import GoSem.Claim
import GoSem.ClaimJoined
import GoSem.ClaimMapViews
import Derived.JoinedTies
import Derived.KernelRfl
namespace Go.Proofs.Ytkifbcjmmkbilaa
/- THE CELL 'sum', in the pinned program and in every row, IS THE sha256 OF THE DUMP (.gsa) THAT YtkifbcjmmkbilaaProg.lean LOADS. Nothing in Lean hashes anything: it is a label: what it is worth is what the hold of that sum in a sandbox is worth. -/
noncomputable def Try.pinned : Pinned := { name := "ytkifbcjmmkbilaa", sum := "a768029f2af095b114037a5e50553a35f92ef5e98d3d5ce76dbe8274fc271458", checked := Try.checked }
namespace Rows
def none {H : Type} : Left H := { results := [], args := [] }

/-- 'flotillalaw22.ProbeRow': WHATEVER THE INPUT: true; the input reads as it did. -/
def probeRowSpec : ChangeSpec := { name := "probeRow", fn := fun _ => fun
  | [d1, d2, d3] => { results := [.lit (.bool true)], args := [d1, d2, d3] }
  | _ => none }
def probeRowRow : OpenClaim := { program := "ytkifbcjmmkbilaa", sum := "a768029f2af095b114037a5e50553a35f92ef5e98d3d5ce76dbe8274fc271458", func := "flotilla/flotillalaw22.ProbeRow", spec := "probeRow", unfollowed := true, recurses := true, apart := false }
def ProbeRowSaid : Prop := probeRowRow.holds Try.pinned (OpenSpec.ofChange probeRowSpec)

/-- ITS FALSE NEIGHBOUR: 'it returns false'. Refute it at one input. -/
def probeRowWrong : ChangeSpec := { name := "probeRow", fn := fun _ => fun
  | [d1, d2, d3] => { results := [.lit (.bool false)], args := [d1, d2, d3] }
  | _ => none }
def ProbeRowWrongFalsely : Prop := probeRowRow.holds Try.pinned (OpenSpec.ofChange probeRowWrong)

/-- 'flotillalaw22.ProbeNever': WHATEVER THE INPUT: true; the input reads as it did. -/
def probeNeverSpec : ChangeSpec := { name := "probeNever", fn := fun _ => fun
  | [d1, d2] => { results := [.lit (.bool true)], args := [d1, d2] }
  | _ => none }
def probeNeverRow : OpenClaim := { program := "ytkifbcjmmkbilaa", sum := "a768029f2af095b114037a5e50553a35f92ef5e98d3d5ce76dbe8274fc271458", func := "flotilla/flotillalaw22.ProbeNever", spec := "probeNever", unfollowed := true, recurses := true, apart := false }
def ProbeNeverSaid : Prop := probeNeverRow.holds Try.pinned (OpenSpec.ofChange probeNeverSpec)

/-- ITS FALSE NEIGHBOUR: 'it returns false'. Refute it at one input. -/
def probeNeverWrong : ChangeSpec := { name := "probeNever", fn := fun _ => fun
  | [d1, d2] => { results := [.lit (.bool false)], args := [d1, d2] }
  | _ => none }
def ProbeNeverWrongFalsely : Prop := probeNeverRow.holds Try.pinned (OpenSpec.ofChange probeNeverWrong)

/-- 'flotillalaw22.ProbeTurned': WHATEVER THE INPUT: true; the input reads as it did. -/
def probeTurnedSpec : ChangeSpec := { name := "probeTurned", fn := fun _ => fun
  | [d1, d2, d3] => { results := [.lit (.bool true)], args := [d1, d2, d3] }
  | _ => none }
def probeTurnedRow : OpenClaim := { program := "ytkifbcjmmkbilaa", sum := "a768029f2af095b114037a5e50553a35f92ef5e98d3d5ce76dbe8274fc271458", func := "flotilla/flotillalaw22.ProbeTurned", spec := "probeTurned", unfollowed := true, recurses := true, apart := false }
def ProbeTurnedSaid : Prop := probeTurnedRow.holds Try.pinned (OpenSpec.ofChange probeTurnedSpec)

/-- ITS FALSE NEIGHBOUR: 'it returns false'. Refute it at one input. -/
def probeTurnedWrong : ChangeSpec := { name := "probeTurned", fn := fun _ => fun
  | [d1, d2, d3] => { results := [.lit (.bool false)], args := [d1, d2, d3] }
  | _ => none }
def ProbeTurnedWrongFalsely : Prop := probeTurnedRow.holds Try.pinned (OpenSpec.ofChange probeTurnedWrong)

/-- 'flotillalaw22.ProbeTold': WHATEVER THE INPUT: true; the input reads as it did. -/
def probeToldSpec : ChangeSpec := { name := "probeTold", fn := fun _ => fun
  | [d1, d2, d3] => { results := [.lit (.bool true)], args := [d1, d2, d3] }
  | _ => none }
def probeToldRow : OpenClaim := { program := "ytkifbcjmmkbilaa", sum := "a768029f2af095b114037a5e50553a35f92ef5e98d3d5ce76dbe8274fc271458", func := "flotilla/flotillalaw22.ProbeTold", spec := "probeTold", unfollowed := true, recurses := true, apart := false }
def ProbeToldSaid : Prop := probeToldRow.holds Try.pinned (OpenSpec.ofChange probeToldSpec)

/-- ITS FALSE NEIGHBOUR: 'it returns false'. Refute it at one input. -/
def probeToldWrong : ChangeSpec := { name := "probeTold", fn := fun _ => fun
  | [d1, d2, d3] => { results := [.lit (.bool false)], args := [d1, d2, d3] }
  | _ => none }
def ProbeToldWrongFalsely : Prop := probeToldRow.holds Try.pinned (OpenSpec.ofChange probeToldWrong)

/- THE SECOND FORM. 'bulk': how many values and letters a reading holds, each counted each time it is reached (what is shared counts as often as it is met; a slice's spare places count too). A statement '..UptoSaid' is the law's where the arguments, and the package variables that the reading takes, are together of bulk at most 1048576: NARROWER than '..Said'. Prove '..Said' where nothing that the law and all that it calls make is longer than what came in: it says more and counts as full. Else prove '..UptoSaid'. A law counts once. -/
mutual
def uptoBulk {H : Type} : DataW H → Nat
  | .lit (.string bytes) => bytes.length + 1
  | .lit _ => 1
  | .nil => 1
  | .ptr d => uptoBulk d + 1
  | .slice elems spare => uptoBulkAll elems + uptoBulkAll spare + 1
  | .agg parts => uptoBulkAll parts + 1
  | .iface _ d => uptoBulk d + 1
  | .map entries => uptoBulkEntries entries + 1
  | .held _ => 1
def uptoBulkAll {H : Type} : List (DataW H) → Nat
  | [] => 0
  | d :: r => uptoBulk d + uptoBulkAll r
def uptoBulkEntries {H : Type} : List (Lit × DataW H) → Nat
  | [] => 0
  | x :: r => uptoBulkEntry x + uptoBulkEntries r
def uptoBulkEntry {H : Type} : Lit × DataW H → Nat
  | (.string bytes, d) => bytes.length + uptoBulk d + 1
  | (_, d) => uptoBulk d + 1
 end
def uptoSmall : (H : Type) → List (DataW H) → Bool := fun _ ds => decide (uptoBulkAll ds ≤ 1048576)
def OpenSpec.upto (s : _root_.Go.ChangeSpec) : _root_.Go.OpenSpec := { _root_.Go.OpenSpec.ofChange s with cond := some uptoSmall }

/-- 'flotillalaw22.ProbeRow', WHERE WHAT IT READS IS OF BULK AT MOST 1048576: true; the input reads as it did. -/
def probeRowUptoRow : OpenClaim := { program := "ytkifbcjmmkbilaa", sum := "a768029f2af095b114037a5e50553a35f92ef5e98d3d5ce76dbe8274fc271458", func := "flotilla/flotillalaw22.ProbeRow", spec := "probeRow", unfollowed := true, recurses := true, apart := false, narrowed := true }
def ProbeRowUptoSaid : Prop := probeRowUptoRow.holds Try.pinned (OpenSpec.upto probeRowSpec)

/-- 'flotillalaw22.ProbeNever', WHERE WHAT IT READS IS OF BULK AT MOST 1048576: true; the input reads as it did. -/
def probeNeverUptoRow : OpenClaim := { program := "ytkifbcjmmkbilaa", sum := "a768029f2af095b114037a5e50553a35f92ef5e98d3d5ce76dbe8274fc271458", func := "flotilla/flotillalaw22.ProbeNever", spec := "probeNever", unfollowed := true, recurses := true, apart := false, narrowed := true }
def ProbeNeverUptoSaid : Prop := probeNeverUptoRow.holds Try.pinned (OpenSpec.upto probeNeverSpec)

/-- 'flotillalaw22.ProbeTurned', WHERE WHAT IT READS IS OF BULK AT MOST 1048576: true; the input reads as it did. -/
def probeTurnedUptoRow : OpenClaim := { program := "ytkifbcjmmkbilaa", sum := "a768029f2af095b114037a5e50553a35f92ef5e98d3d5ce76dbe8274fc271458", func := "flotilla/flotillalaw22.ProbeTurned", spec := "probeTurned", unfollowed := true, recurses := true, apart := false, narrowed := true }
def ProbeTurnedUptoSaid : Prop := probeTurnedUptoRow.holds Try.pinned (OpenSpec.upto probeTurnedSpec)

/-- 'flotillalaw22.ProbeTold', WHERE WHAT IT READS IS OF BULK AT MOST 1048576: true; the input reads as it did. -/
def probeToldUptoRow : OpenClaim := { program := "ytkifbcjmmkbilaa", sum := "a768029f2af095b114037a5e50553a35f92ef5e98d3d5ce76dbe8274fc271458", func := "flotilla/flotillalaw22.ProbeTold", spec := "probeTold", unfollowed := true, recurses := true, apart := false, narrowed := true }
def ProbeToldUptoSaid : Prop := probeToldUptoRow.holds Try.pinned (OpenSpec.upto probeToldSpec)

end Rows
end Go.Proofs.Ytkifbcjmmkbilaa
