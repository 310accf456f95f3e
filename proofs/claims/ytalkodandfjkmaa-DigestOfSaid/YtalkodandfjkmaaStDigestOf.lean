/- The law DigestOf as a statement over plain values: for all values of its parameters that can be read, the printed function answers true. -/
import Derived.Test.YtalkodandfjkmaaPrintx1
import Derived.Test.YtalkodandfjkmaaRd
import Derived.WalkKit
import Derived.ProofKit
import Derived.OpenShut
import Derived.ShutString
import Derived.ChangeOld
import Derived.Below
import Derived.SizedLaws
import Derived.Carry
namespace Go.Proofs.Ytalkodandfjkmaa.digestOf
open Go.ChangeShapes Go.WideShapes Go.ChangeAt Go.RowKit Go.Proofs.YtalkodandfjkmaaW.PrintWords Go.Proofs.YtalkodandfjkmaaW.PrintLast Go.Proofs.YtalkodandfjkmaaRd Go.Proofs.Ytalkodandfjkmaa.Print
set_option linter.unusedVariables false
/-- The plain statement. -/
def Pure : Prop := ∀ (x0 : List Int), (fun xs : List Int => xs.length * 1 ≤ 140737488351232 ∧ xs.length ≤ 9223372036854775807 ∧ ∀ x ∈ xs, (fun n : Int => (Lit.int .u8 n).wf = true) x) x0 → ∃ k, flotillalaw05_DigestOf.f k x0 = some true
end Go.Proofs.Ytalkodandfjkmaa.digestOf
