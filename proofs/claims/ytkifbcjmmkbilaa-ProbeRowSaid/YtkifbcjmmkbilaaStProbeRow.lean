/- The law ProbeRow as a statement over plain values: for all values of its parameters that can be read, the printed function answers true. -/
import Derived.Test.YtkifbcjmmkbilaaPrintx3
import Derived.Test.YtkifbcjmmkbilaaRd
import Derived.WalkKit
import Derived.ProofKit
import Derived.OpenShut
import Derived.ShutString
import Derived.ChangeOld
import Derived.Below
import Derived.SizedLaws
import Derived.Carry
namespace Go.Proofs.Ytkifbcjmmkbilaa.probeRow
open Go.ChangeShapes Go.WideShapes Go.ChangeAt Go.RowKit Go.Proofs.YtkifbcjmmkbilaaW.PrintWords Go.Proofs.YtkifbcjmmkbilaaW.PrintLast Go.Proofs.YtkifbcjmmkbilaaRd Go.Proofs.Ytkifbcjmmkbilaa.Print
set_option linter.unusedVariables false
def Ok_T23 (x : S23) : Prop := (fun n : Int => (Lit.int .i64 n).wf = true) x.f0 ∧ (fun n : Int => (Lit.int .i64 n).wf = true) x.f1 ∧ (fun _ : Bool => True) x.f2
theorem opens_T23 : Opens Try.prog k23 23 Ok_T23 :=
  opens_struct (d := (Kd.pair (Kd.int .i64) (Kd.pair (Kd.int .i64) Kd.bool))) (fun x : S23 => (x.f0, x.f1, x.f2)) (fun p => (⟨p.1, p.2.1, p.2.2⟩ : S23)) (fun _ => rfl) Try.underlying23 (by kernel_rfl) (opensL_cons (opens_int Try.underlying3) (by kernel_rfl) (opensL_cons (opens_int Try.underlying3) (by kernel_rfl) (opensL_one (opens_bool Try.underlying4) (by kernel_rfl))))

def Ok_T26 (x : S26) : Prop := (fun n : Int => (Lit.int .i64 n).wf = true) x.f0 ∧ (fun n : Int => (Lit.int .i64 n).wf = true) x.f1
theorem opens_T26 : Opens Try.prog k26 26 Ok_T26 :=
  opens_struct (d := (Kd.pair (Kd.int .i64) (Kd.int .i64))) (fun x : S26 => (x.f0, x.f1)) (fun p => (⟨p.1, p.2⟩ : S26)) (fun _ => rfl) Try.underlying26 (by kernel_rfl) (opensL_cons (opens_int Try.underlying3) (by kernel_rfl) (opensL_one (opens_int Try.underlying3) (by kernel_rfl)))

/-- The plain statement. -/
def Pure : Prop := ∀ (x0 : S23) (x1 : List Bool) (x2 : S26), Ok_T23 x0 → (fun xs : List Bool => xs.length * 1 ≤ 140737488351232 ∧ xs.length ≤ 9223372036854775807 ∧ ∀ x ∈ xs, (fun _ : Bool => True) x) x1 → Ok_T26 x2 → ∃ k, flotillalaw22_ProbeRow.f k x0.f0 x0.f1 x0.f2 x1 x2.f0 x2.f1 = some true
end Go.Proofs.Ytkifbcjmmkbilaa.probeRow
