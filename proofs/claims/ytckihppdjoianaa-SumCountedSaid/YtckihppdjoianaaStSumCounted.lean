/- The law SumCounted as a statement over plain values: for all values of its parameters that can be read, the printed function answers true. -/
import Derived.Test.YtckihppdjoianaaPrintx2
import Derived.Test.YtckihppdjoianaaRd
import Derived.WalkKit
import Derived.ProofKit
import Derived.OpenShut
import Derived.ShutString
import Derived.ChangeOld
import Derived.Below
import Derived.SizedLaws
import Derived.Carry
namespace Go.Proofs.Ytckihppdjoianaa.sumCounted
open Go.ChangeShapes Go.WideShapes Go.ChangeAt Go.RowKit Go.Proofs.YtckihppdjoianaaW.PrintWords Go.Proofs.YtckihppdjoianaaW.PrintLast Go.Proofs.YtckihppdjoianaaRd Go.Proofs.Ytckihppdjoianaa.Print
set_option linter.unusedVariables false
/-- The plain statement. -/
def Pure : Prop := ∀ (x0 : Int) (x1 : List Int), (fun n : Int => (Lit.int .u32 n).wf = true) x0 → (fun xs : List Int => xs.length * 1 ≤ 140737488351232 ∧ xs.length ≤ 9223372036854775807 ∧ ∀ x ∈ xs, (fun n : Int => (Lit.int .u8 n).wf = true) x) x1 → ∃ k, flotillalaw04_SumCounted.f k x0 x1 = some true
end Go.Proofs.Ytckihppdjoianaa.sumCounted
