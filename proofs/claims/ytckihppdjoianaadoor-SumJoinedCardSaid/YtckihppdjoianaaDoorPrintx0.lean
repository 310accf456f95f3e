/- The functions below as plain Lean functions, each with the proof that the calls come to it; written by a program over the kit's print. -/
import Derived.Test.YtckihppdjoianaaDoorProg
import Derived.Below
import Derived.Deep.Draws
import Derived.Deep.AppendLies
import Derived.Maps.AppendAt
import Derived.OwnWalk
import Derived.Laws.BytesArg
import Derived.Laws.MakeOwn
import Derived.Laws.OwnMore
import Derived.Deep.OwnRows
import Derived.Tactics
import Derived.Lib.ConvBytes
import Derived.Laws.Slices
import Derived.WalkKit
import Derived.KernelRfl
import Derived.RowKit3
import Derived.Deep.LoopGhost
import Derived.Deep.QuietTactic
import Derived.BigQuiet
import Derived.WideLaws
import Derived.Deep.DeepCutAuto
import Derived.Deep.CutBlock
import Derived.Deep.RegionHeld3
import Derived.Laws.Rows
import Derived.Lib.AppendStr
import Derived.ArgAppend
import Derived.Laws.IdiomCopy
import Derived.OrdersHeld
import Derived.Laws.BitsLemmas
import Derived.RowKit
import Derived.Lib.Hide
import Derived.Handy
import Derived.Test.YtckihppdjoianaaDoorEv
import Derived.Test.YtckihppdjoianaaDoorCrc
import Derived.Test.YtckihppdjoianaaDoorMid
import Derived.Test.YtckihppdjoianaaDoorPow
import Derived.Test.YtckihppdjoianaaDoorPlain
import Derived.Test.YtckihppdjoianaaDoorWWords
import Derived.Test.YtckihppdjoianaaDoorWLast
import Derived.Test.YtckihppdjoianaaDoorWTab
import Derived.Test.YtckihppdjoianaaDoorWFour
import Derived.Test.YtckihppdjoianaaDoorWQPut
import Derived.Test.YtckihppdjoianaaDoorWApart
import Derived.Test.YtckihppdjoianaaDoorWArr
import Derived.Test.YtckihppdjoianaaDoorWZeros
import Derived.Test.YtckihppdjoianaaDoorWFoot
import Derived.Test.YtckihppdjoianaaDoorWKept
import Derived.Test.YtckihppdjoianaaDoorWShare
import Derived.Test.YtckihppdjoianaaDoorWN
import Derived.Test.YtckihppdjoianaaDoorWFootNe
import Derived.Test.YtckihppdjoianaaDoorWAt
import Derived.Test.YtckihppdjoianaaDoorWEqStruct
import Derived.Test.YtckihppdjoianaaDoorWRepsOne
import Derived.Test.YtckihppdjoianaaDoorWInv
import Derived.Test.YtckihppdjoianaaDoorWInvWords
import Derived.Test.YtckihppdjoianaaDoorWGuard
import Derived.Test.YtckihppdjoianaaDoorWNEv
import Derived.Test.YtckihppdjoianaaDoorWMore
namespace Go.Proofs.YtckihppdjoianaaDoor.Print
open Go.RowKit Go.Proofs.YtckihppdjoianaaDoorW.PrintWords Go.Proofs.YtckihppdjoianaaDoorW.PrintLast Go.Proofs.YtckihppdjoianaaDoorW.PrintMore
attribute [local go_sem] max2_int min2_int max_two min_two max_three min_three max_four min_four   -- for this text's walks alone
set_option linter.unusedVariables false
set_option linter.unusedSimpArgs false



def errW : Option Int → Value
  | none => .nilIface
  | some c => .iface 39 (.int .i64 c)
theorem errW_none : errW none = .nilIface := rfl
theorem errW_some (c : Int) : errW (some c) = .iface 39 (.int .i64 c) := rfl

theorem info22 : (Tryd.prog.info? 22).map (fun i => (i.zero, i.size, i.bytes)) = some (some (.int .u32 0), 1, 4) := by kernel_rfl
-- the values' own types

end Go.Proofs.YtckihppdjoianaaDoor.Print
