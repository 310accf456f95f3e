/- The law SumNone as a statement over plain values: for all values of its parameters that can be read, the printed function answers true. -/
import Derived.Test.YtckihppdjoianaaPrintx1
import Derived.Test.YtckihppdjoianaaRd
import Derived.WalkKit
import Derived.ProofKit
import Derived.OpenShut
import Derived.ShutString
import Derived.ChangeOld
import Derived.Below
import Derived.SizedLaws
import Derived.Carry
namespace Go.Proofs.Ytckihppdjoianaa.sumNone
open Go.ChangeShapes Go.WideShapes Go.ChangeAt Go.RowKit Go.Proofs.YtckihppdjoianaaW.PrintWords Go.Proofs.YtckihppdjoianaaW.PrintLast Go.Proofs.YtckihppdjoianaaRd Go.Proofs.Ytckihppdjoianaa.Print
set_option linter.unusedVariables false
/-- The plain statement. -/
def Pure : Prop := ∀ (x0 : Int) (x1 : Int), (fun n : Int => (Lit.int .u32 n).wf = true) x0 → (fun n : Int => (Lit.int .i64 n).wf = true) x1 → ∃ k, flotillalaw04_SumNone.f k x0 x1 = some true
end Go.Proofs.Ytckihppdjoianaa.sumNone
