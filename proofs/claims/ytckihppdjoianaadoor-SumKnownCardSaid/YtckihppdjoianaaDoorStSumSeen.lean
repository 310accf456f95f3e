/- The law SumSeen as a statement over plain values: for all values of its parameters that can be read, the printed function answers true. -/
import Derived.Test.YtckihppdjoianaaDoorPrintx5
import Derived.Test.YtckihppdjoianaaDoorRd
import Derived.WalkKit
import Derived.ProofKit
import Derived.OpenShut
import Derived.ShutString
import Derived.ChangeOld
import Derived.Below
import Derived.SizedLaws
import Derived.Carry
namespace Go.Proofs.YtckihppdjoianaaDoor.sumSeen
open Go.ChangeShapes Go.WideShapes Go.ChangeAt Go.RowKit Go.Proofs.YtckihppdjoianaaDoorW.PrintWords Go.Proofs.YtckihppdjoianaaDoorW.PrintLast Go.Proofs.YtckihppdjoianaaDoorRd Go.Proofs.YtckihppdjoianaaDoor.Print
set_option linter.unusedVariables false
/-- The plain statement. -/
def Pure : Prop := ∀ (x0 : List Int) (x1 : Int) (x2 : Int), (fun xs : List Int => xs.length * 1 ≤ 140737488351232 ∧ xs.length ≤ 9223372036854775807 ∧ ∀ x ∈ xs, (fun n : Int => (Lit.int .u8 n).wf = true) x) x0 → (fun n : Int => (Lit.int .i64 n).wf = true) x1 → (fun n : Int => (Lit.int .u32 n).wf = true) x2 → ∃ k, flotillalaw04_SumSeen.f k x0 x1 x2 = some true
end Go.Proofs.YtckihppdjoianaaDoor.sumSeen
