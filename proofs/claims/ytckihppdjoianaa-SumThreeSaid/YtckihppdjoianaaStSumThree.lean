/- The law SumThree as a statement over plain values: for all values of its parameters that can be read, the printed function answers true. -/
import Derived.Test.YtckihppdjoianaaPrintx1
import Derived.Test.YtckihppdjoianaaRd
import Derived.WalkKit
import Derived.ProofKit
import Derived.OpenShut
import Derived.ShutString
import Derived.ChangeOld
import Derived.Below
import Derived.SizedLaws
import Derived.Carry
namespace Go.Proofs.Ytckihppdjoianaa.sumThree
open Go.ChangeShapes Go.WideShapes Go.ChangeAt Go.RowKit Go.Proofs.YtckihppdjoianaaW.PrintWords Go.Proofs.YtckihppdjoianaaW.PrintLast Go.Proofs.YtckihppdjoianaaRd Go.Proofs.Ytckihppdjoianaa.Print
set_option linter.unusedVariables false
def Ok_T38 (x : S38) : Prop := (fun n : Int => (Lit.int .u32 n).wf = true) x.f0 ∧ (fun n : Int => (Lit.int .u32 n).wf = true) x.f1 ∧ (fun n : Int => (Lit.int .u32 n).wf = true) x.f2 ∧ (fun n : Int => (Lit.int .i64 n).wf = true) x.f3 ∧ (fun n : Int => (Lit.int .i64 n).wf = true) x.f4
theorem opens_T38 : Opens Try.prog k38 38 Ok_T38 :=
  opens_struct (d := (Kd.pair (Kd.int .u32) (Kd.pair (Kd.int .u32) (Kd.pair (Kd.int .u32) (Kd.pair (Kd.int .i64) (Kd.int .i64)))))) (fun x : S38 => (x.f0, x.f1, x.f2, x.f3, x.f4)) (fun p => (⟨p.1, p.2.1, p.2.2.1, p.2.2.2.1, p.2.2.2.2⟩ : S38)) (fun _ => rfl) Try.underlying38 (by kernel_rfl) (opensL_cons (opens_int Try.underlying22) (by kernel_rfl) (opensL_cons (opens_int Try.underlying22) (by kernel_rfl) (opensL_cons (opens_int Try.underlying22) (by kernel_rfl) (opensL_cons (opens_int Try.underlying3) (by kernel_rfl) (opensL_one (opens_int Try.underlying3) (by kernel_rfl))))))

/-- The plain statement. -/
def Pure : Prop := ∀ (x0 : S38), Ok_T38 x0 → ∃ k, flotillalaw04_SumThree.f k x0.f0 x0.f1 x0.f2 x0.f3 x0.f4 = some true
end Go.Proofs.Ytckihppdjoianaa.sumThree
