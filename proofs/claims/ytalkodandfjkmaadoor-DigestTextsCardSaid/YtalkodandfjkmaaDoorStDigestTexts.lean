/- The law DigestTexts as a statement over plain values: for all values of its parameters that can be read, the printed function answers true. -/
import Derived.Test.YtalkodandfjkmaaDoorPrintx2
import Derived.Test.YtalkodandfjkmaaDoorRd
import Derived.WalkKit
import Derived.ProofKit
import Derived.OpenShut
import Derived.ShutString
import Derived.ChangeOld
import Derived.Below
import Derived.SizedLaws
import Derived.Carry
namespace Go.Proofs.YtalkodandfjkmaaDoor.digestTexts
open Go.ChangeShapes Go.WideShapes Go.ChangeAt Go.RowKit Go.Proofs.YtalkodandfjkmaaDoorW.PrintWords Go.Proofs.YtalkodandfjkmaaDoorW.PrintLast Go.Proofs.YtalkodandfjkmaaDoorRd Go.Proofs.YtalkodandfjkmaaDoor.Print
set_option linter.unusedVariables false
/-- The plain statement. -/
def Pure : Prop := ∀ (x0 : Int) (x1 : ByteArray), (fun n : Int => (Lit.int .u64 n).wf = true) x0 → (fun s : ByteArray => s.size ≤ 140737488351232) x1 → ∃ k, flotillalaw05_DigestTexts.f k x0 x1 = some true
end Go.Proofs.YtalkodandfjkmaaDoor.digestTexts
