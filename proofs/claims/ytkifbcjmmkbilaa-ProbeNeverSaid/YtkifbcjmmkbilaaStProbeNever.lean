/- The law ProbeNever as a statement over plain values: for all values of its parameters that can be read, the printed function answers true. -/
import Derived.Test.YtkifbcjmmkbilaaPrintx5
import Derived.Test.YtkifbcjmmkbilaaRd
import Derived.WalkKit
import Derived.ProofKit
import Derived.OpenShut
import Derived.ShutString
import Derived.ChangeOld
import Derived.Below
import Derived.SizedLaws
import Derived.Carry
namespace Go.Proofs.Ytkifbcjmmkbilaa.probeNever
open Go.ChangeShapes Go.WideShapes Go.ChangeAt Go.RowKit Go.Proofs.YtkifbcjmmkbilaaW.PrintWords Go.Proofs.YtkifbcjmmkbilaaW.PrintLast Go.Proofs.YtkifbcjmmkbilaaRd Go.Proofs.Ytkifbcjmmkbilaa.Print
set_option linter.unusedVariables false
def Ok_T26 (x : S26) : Prop := (fun n : Int => (Lit.int .i64 n).wf = true) x.f0 ∧ (fun n : Int => (Lit.int .i64 n).wf = true) x.f1
theorem opens_T26 : Opens Try.prog k26 26 Ok_T26 :=
  opens_struct (d := (Kd.pair (Kd.int .i64) (Kd.int .i64))) (fun x : S26 => (x.f0, x.f1)) (fun p => (⟨p.1, p.2⟩ : S26)) (fun _ => rfl) Try.underlying26 (by kernel_rfl) (opensL_cons (opens_int Try.underlying3) (by kernel_rfl) (opensL_one (opens_int Try.underlying3) (by kernel_rfl)))

/-- The plain statement. -/
def Pure : Prop := ∀ (x0 : List Bool) (x1 : S26), (fun xs : List Bool => xs.length * 1 ≤ 140737488351232 ∧ xs.length ≤ 9223372036854775807 ∧ ∀ x ∈ xs, (fun _ : Bool => True) x) x0 → Ok_T26 x1 → ∃ k, flotillalaw22_ProbeNever.f k x0 x1.f0 x1.f1 = some true
end Go.Proofs.Ytkifbcjmmkbilaa.probeNever
