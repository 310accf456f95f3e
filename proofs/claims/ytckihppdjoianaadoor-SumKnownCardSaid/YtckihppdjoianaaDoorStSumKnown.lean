/- The law SumKnown as a statement over plain values: for all values of its parameters that can be read, the printed function answers true. -/
import Derived.Test.YtckihppdjoianaaDoorPrintx6
import Derived.Test.YtckihppdjoianaaDoorRd
import Derived.WalkKit
import Derived.ProofKit
import Derived.OpenShut
import Derived.ShutString
import Derived.ChangeOld
import Derived.Below
import Derived.SizedLaws
import Derived.Carry
namespace Go.Proofs.YtckihppdjoianaaDoor.sumKnown
open Go.ChangeShapes Go.WideShapes Go.ChangeAt Go.RowKit Go.Proofs.YtckihppdjoianaaDoorW.PrintWords Go.Proofs.YtckihppdjoianaaDoorW.PrintLast Go.Proofs.YtckihppdjoianaaDoorRd Go.Proofs.YtckihppdjoianaaDoor.Print
set_option linter.unusedVariables false
/-- The plain statement. -/
def Pure : Prop := ∃ k, flotillalaw04_SumKnown.f k  = some true
end Go.Proofs.YtckihppdjoianaaDoor.sumKnown
