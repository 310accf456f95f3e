/-
  No cell of these rows narrows 'for every input' (looked for: loops, veiled, ifaces, maps, wideKeys, modest, calm, conditions, laid).
  DERIVED. THE GIVEN ROWS OF THIS SEAT. 5 by the template 'for every input the law returns true; each argument reads behind the call as it read before'; 0 by the template 'total and deterministic' (their statements: YtalkodandfjkmaaTotals.lean).
  GIVEN WITH THE SEED: the statements are not yours to turn. If you find one false, say at which input.
  Laid BY PROGRAM, IN A SANDBOX (cutbox-rows.mjs): the forced cells as the released guide's own fill.sh prints them over the translation b9a1b0051e3fef96… (all of the seat's roots in one cut). By AI agents, Wed Nov 11 2026. No macro, syntax, notation, axiom, sorry.
-/
import Derived.Test.YtalkodandfjkmaaChecked
import GoSem.Claim
import GoSem.ClaimJoined
import GoSem.ClaimMapViews
import Derived.JoinedTies
import Derived.KernelRfl
namespace Go.Proofs.Ytalkodandfjkmaa
/- THE CELL 'sum', in the pinned program and in every row, IS THE sha256 OF THE DUMP (.gsa) THAT YtalkodandfjkmaaProg.lean LOADS. Nothing in Lean hashes anything: it is a label: what it is worth is what the hold of that sum in a sandbox is worth. -/
noncomputable def Try.pinned : Pinned := { name := "ytalkodandfjkmaa", sum := "b9a1b0051e3fef96d9db38aad721e68bcdc92e2117bdad9fb013f2f2127d0258", checked := Try.checked }
namespace Rows
def none {H : Type} : Left H := { results := [], args := [] }

/-- 'flotillalaw05.DigestOf': WHATEVER THE INPUT: true; the input reads as it did. -/
def digestOfSpec : ChangeSpec := { name := "digestOf", fn := fun _ => fun
  | [d] => { results := [.lit (.bool true)], args := [d] }
  | _ => none }
def digestOfRow : OpenClaim := { program := "ytalkodandfjkmaa", sum := "b9a1b0051e3fef96d9db38aad721e68bcdc92e2117bdad9fb013f2f2127d0258", func := "flotilla/flotillalaw05.DigestOf", spec := "digestOf", apart := false }
def DigestOfSaid : Prop := digestOfRow.holds Try.pinned (OpenSpec.ofChange digestOfSpec)

/-- ITS FALSE NEIGHBOUR: 'it returns false'. Refute it at one input. -/
def digestOfWrong : ChangeSpec := { name := "digestOf", fn := fun _ => fun
  | [d] => { results := [.lit (.bool false)], args := [d] }
  | _ => none }
def DigestOfWrongFalsely : Prop := digestOfRow.holds Try.pinned (OpenSpec.ofChange digestOfWrong)

/-- 'flotillalaw05.DigestTemplate': WHATEVER THE INPUT: true; the input reads as it did. -/
def digestTemplateSpec : ChangeSpec := { name := "digestTemplate", fn := fun _ => fun
  | [d] => { results := [.lit (.bool true)], args := [d] }
  | _ => none }
def digestTemplateRow : OpenClaim := { program := "ytalkodandfjkmaa", sum := "b9a1b0051e3fef96d9db38aad721e68bcdc92e2117bdad9fb013f2f2127d0258", func := "flotilla/flotillalaw05.DigestTemplate", spec := "digestTemplate", apart := false }
def DigestTemplateSaid : Prop := digestTemplateRow.holds Try.pinned (OpenSpec.ofChange digestTemplateSpec)

/-- ITS FALSE NEIGHBOUR: 'it returns false'. Refute it at one input. -/
def digestTemplateWrong : ChangeSpec := { name := "digestTemplate", fn := fun _ => fun
  | [d] => { results := [.lit (.bool false)], args := [d] }
  | _ => none }
def DigestTemplateWrongFalsely : Prop := digestTemplateRow.holds Try.pinned (OpenSpec.ofChange digestTemplateWrong)

/-- 'flotillalaw05.DigestOne': WHATEVER THE INPUT: true; the input reads as it did. -/
def digestOneSpec : ChangeSpec := { name := "digestOne", fn := fun _ => fun
  | [d1, d2, d3, d4] => { results := [.lit (.bool true)], args := [d1, d2, d3, d4] }
  | _ => none }
def digestOneRow : OpenClaim := { program := "ytalkodandfjkmaa", sum := "b9a1b0051e3fef96d9db38aad721e68bcdc92e2117bdad9fb013f2f2127d0258", func := "flotilla/flotillalaw05.DigestOne", spec := "digestOne", inPlace := ["internal/bytealg.IndexByteString"], apart := false }
def DigestOneSaid : Prop := digestOneRow.holds Try.pinned (OpenSpec.ofChange digestOneSpec)

/-- ITS FALSE NEIGHBOUR: 'it returns false'. Refute it at one input. -/
def digestOneWrong : ChangeSpec := { name := "digestOne", fn := fun _ => fun
  | [d1, d2, d3, d4] => { results := [.lit (.bool false)], args := [d1, d2, d3, d4] }
  | _ => none }
def DigestOneWrongFalsely : Prop := digestOneRow.holds Try.pinned (OpenSpec.ofChange digestOneWrong)

/-- 'flotillalaw05.DigestFields': WHATEVER THE INPUT: true; the input reads as it did. -/
def digestFieldsSpec : ChangeSpec := { name := "digestFields", fn := fun _ => fun
  | [d1, d2] => { results := [.lit (.bool true)], args := [d1, d2] }
  | _ => none }
def digestFieldsRow : OpenClaim := { program := "ytalkodandfjkmaa", sum := "b9a1b0051e3fef96d9db38aad721e68bcdc92e2117bdad9fb013f2f2127d0258", func := "flotilla/flotillalaw05.DigestFields", spec := "digestFields", inPlace := ["internal/bytealg.IndexByteString"], apart := false }
def DigestFieldsSaid : Prop := digestFieldsRow.holds Try.pinned (OpenSpec.ofChange digestFieldsSpec)

/-- ITS FALSE NEIGHBOUR: 'it returns false'. Refute it at one input. -/
def digestFieldsWrong : ChangeSpec := { name := "digestFields", fn := fun _ => fun
  | [d1, d2] => { results := [.lit (.bool false)], args := [d1, d2] }
  | _ => none }
def DigestFieldsWrongFalsely : Prop := digestFieldsRow.holds Try.pinned (OpenSpec.ofChange digestFieldsWrong)

/-- 'flotillalaw05.DigestBack': WHATEVER THE INPUT: true; the input reads as it did. -/
def digestBackSpec : ChangeSpec := { name := "digestBack", fn := fun _ => fun
  | [d1, d2] => { results := [.lit (.bool true)], args := [d1, d2] }
  | _ => none }
def digestBackRow : OpenClaim := { program := "ytalkodandfjkmaa", sum := "b9a1b0051e3fef96d9db38aad721e68bcdc92e2117bdad9fb013f2f2127d0258", func := "flotilla/flotillalaw05.DigestBack", spec := "digestBack", inPlace := ["internal/bytealg.IndexByteString", "internal/reflectlite.TypeOf"], unfollowed := true, recurses := true, apart := false }
def DigestBackSaid : Prop := digestBackRow.holds Try.pinned (OpenSpec.ofChange digestBackSpec)

/-- ITS FALSE NEIGHBOUR: 'it returns false'. Refute it at one input. -/
def digestBackWrong : ChangeSpec := { name := "digestBack", fn := fun _ => fun
  | [d1, d2] => { results := [.lit (.bool false)], args := [d1, d2] }
  | _ => none }
def DigestBackWrongFalsely : Prop := digestBackRow.holds Try.pinned (OpenSpec.ofChange digestBackWrong)

/- THE SECOND FORM. 'bulk': how many values and letters a reading holds, each counted each time it is reached (what is shared counts as often as it is met; a slice's spare places count too). A statement '..UptoSaid' is the law's where the arguments, and the package variables that the reading takes, are together of bulk at most 1048576: NARROWER than '..Said'. Prove '..Said' where nothing that the law and all that it calls make is longer than what came in: it says more and counts as full. Else prove '..UptoSaid'. A law counts once. -/
mutual
def uptoBulk {H : Type} : DataW H → Nat
  | .lit (.string bytes) => bytes.length + 1
  | .lit _ => 1
  | .nil => 1
  | .ptr d => uptoBulk d + 1
  | .slice elems spare => uptoBulkAll elems + uptoBulkAll spare + 1
  | .agg parts => uptoBulkAll parts + 1
  | .iface _ d => uptoBulk d + 1
  | .map entries => uptoBulkEntries entries + 1
  | .held _ => 1
def uptoBulkAll {H : Type} : List (DataW H) → Nat
  | [] => 0
  | d :: r => uptoBulk d + uptoBulkAll r
def uptoBulkEntries {H : Type} : List (Lit × DataW H) → Nat
  | [] => 0
  | x :: r => uptoBulkEntry x + uptoBulkEntries r
def uptoBulkEntry {H : Type} : Lit × DataW H → Nat
  | (.string bytes, d) => bytes.length + uptoBulk d + 1
  | (_, d) => uptoBulk d + 1
 end
def uptoSmall : (H : Type) → List (DataW H) → Bool := fun _ ds => decide (uptoBulkAll ds ≤ 1048576)
def OpenSpec.upto (s : _root_.Go.ChangeSpec) : _root_.Go.OpenSpec := { _root_.Go.OpenSpec.ofChange s with cond := some uptoSmall }

/-- 'flotillalaw05.DigestOf', WHERE WHAT IT READS IS OF BULK AT MOST 1048576: true; the input reads as it did. -/
def digestOfUptoRow : OpenClaim := { program := "ytalkodandfjkmaa", sum := "b9a1b0051e3fef96d9db38aad721e68bcdc92e2117bdad9fb013f2f2127d0258", func := "flotilla/flotillalaw05.DigestOf", spec := "digestOf", apart := false, narrowed := true }
def DigestOfUptoSaid : Prop := digestOfUptoRow.holds Try.pinned (OpenSpec.upto digestOfSpec)

/-- 'flotillalaw05.DigestTemplate', WHERE WHAT IT READS IS OF BULK AT MOST 1048576: true; the input reads as it did. -/
def digestTemplateUptoRow : OpenClaim := { program := "ytalkodandfjkmaa", sum := "b9a1b0051e3fef96d9db38aad721e68bcdc92e2117bdad9fb013f2f2127d0258", func := "flotilla/flotillalaw05.DigestTemplate", spec := "digestTemplate", apart := false, narrowed := true }
def DigestTemplateUptoSaid : Prop := digestTemplateUptoRow.holds Try.pinned (OpenSpec.upto digestTemplateSpec)

/-- 'flotillalaw05.DigestOne', WHERE WHAT IT READS IS OF BULK AT MOST 1048576: true; the input reads as it did. -/
def digestOneUptoRow : OpenClaim := { program := "ytalkodandfjkmaa", sum := "b9a1b0051e3fef96d9db38aad721e68bcdc92e2117bdad9fb013f2f2127d0258", func := "flotilla/flotillalaw05.DigestOne", spec := "digestOne", inPlace := ["internal/bytealg.IndexByteString"], apart := false, narrowed := true }
def DigestOneUptoSaid : Prop := digestOneUptoRow.holds Try.pinned (OpenSpec.upto digestOneSpec)

/-- 'flotillalaw05.DigestFields', WHERE WHAT IT READS IS OF BULK AT MOST 1048576: true; the input reads as it did. -/
def digestFieldsUptoRow : OpenClaim := { program := "ytalkodandfjkmaa", sum := "b9a1b0051e3fef96d9db38aad721e68bcdc92e2117bdad9fb013f2f2127d0258", func := "flotilla/flotillalaw05.DigestFields", spec := "digestFields", inPlace := ["internal/bytealg.IndexByteString"], apart := false, narrowed := true }
def DigestFieldsUptoSaid : Prop := digestFieldsUptoRow.holds Try.pinned (OpenSpec.upto digestFieldsSpec)

/-- 'flotillalaw05.DigestBack', WHERE WHAT IT READS IS OF BULK AT MOST 1048576: true; the input reads as it did. -/
def digestBackUptoRow : OpenClaim := { program := "ytalkodandfjkmaa", sum := "b9a1b0051e3fef96d9db38aad721e68bcdc92e2117bdad9fb013f2f2127d0258", func := "flotilla/flotillalaw05.DigestBack", spec := "digestBack", inPlace := ["internal/bytealg.IndexByteString", "internal/reflectlite.TypeOf"], unfollowed := true, recurses := true, apart := false, narrowed := true }
def DigestBackUptoSaid : Prop := digestBackUptoRow.holds Try.pinned (OpenSpec.upto digestBackSpec)

end Rows
end Go.Proofs.Ytalkodandfjkmaa
