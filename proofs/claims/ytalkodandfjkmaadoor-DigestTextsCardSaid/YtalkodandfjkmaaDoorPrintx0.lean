/- The functions below as plain Lean functions, each with the proof that the calls come to it; written by a program over the kit's print. -/
import Derived.Test.YtalkodandfjkmaaDoorProg
import Derived.Below
import Derived.Deep.Draws
import Derived.Deep.AppendLies
import Derived.Maps.AppendAt
import Derived.OwnWalk
import Derived.Laws.BytesArg
import Derived.Laws.MakeOwn
import Derived.Laws.OwnMore
import Derived.Deep.OwnRows
import Derived.Tactics
import Derived.Lib.ConvBytes
import Derived.Laws.Slices
import Derived.WalkKit
import Derived.KernelRfl
import Derived.RowKit3
import Derived.Deep.LoopGhost
import Derived.Deep.QuietTactic
import Derived.BigQuiet
import Derived.WideLaws
import Derived.Deep.DeepCutAuto
import Derived.Deep.CutBlock
import Derived.Deep.RegionHeld3
import Derived.Laws.Rows
import Derived.Lib.AppendStr
import Derived.ArgAppend
import Derived.Laws.IdiomCopy
import Derived.OrdersHeld
import Derived.Laws.BitsLemmas
import Derived.RowKit
import Derived.Lib.Hide
import Derived.Handy
import Derived.Test.YtalkodandfjkmaaDoorShelf
import Derived.Test.YtalkodandfjkmaaDoorEv
import Derived.Test.YtalkodandfjkmaaDoorDigP
import Derived.Test.YtalkodandfjkmaaDoorDig
import Derived.Test.YtalkodandfjkmaaDoorDigL
import Derived.Test.YtalkodandfjkmaaDoorPlain
import Derived.Test.YtalkodandfjkmaaDoorWWords
import Derived.Test.YtalkodandfjkmaaDoorWLast
import Derived.Test.YtalkodandfjkmaaDoorWTab
import Derived.Test.YtalkodandfjkmaaDoorWFour
import Derived.Test.YtalkodandfjkmaaDoorWQPut
import Derived.Test.YtalkodandfjkmaaDoorWApart
import Derived.Test.YtalkodandfjkmaaDoorWArr
import Derived.Test.YtalkodandfjkmaaDoorWZeros
import Derived.Test.YtalkodandfjkmaaDoorWFoot
import Derived.Test.YtalkodandfjkmaaDoorWKept
import Derived.Test.YtalkodandfjkmaaDoorWShare
import Derived.Test.YtalkodandfjkmaaDoorWN
import Derived.Test.YtalkodandfjkmaaDoorWFootNe
import Derived.Test.YtalkodandfjkmaaDoorWAt
import Derived.Test.YtalkodandfjkmaaDoorWEqStruct
import Derived.Test.YtalkodandfjkmaaDoorWRepsOne
import Derived.Test.YtalkodandfjkmaaDoorWInv
import Derived.Test.YtalkodandfjkmaaDoorWInvWords
import Derived.Test.YtalkodandfjkmaaDoorWGuard
import Derived.Test.YtalkodandfjkmaaDoorWNEv
import Derived.Test.YtalkodandfjkmaaDoorWMore
namespace Go.Proofs.YtalkodandfjkmaaDoor.Print
open Go.RowKit Go.Proofs.YtalkodandfjkmaaDoorW.PrintWords Go.Proofs.YtalkodandfjkmaaDoorW.PrintLast Go.Proofs.YtalkodandfjkmaaDoorW.PrintMore
attribute [local go_sem] max2_int min2_int max_two min_two max_three min_three max_four min_four   -- for this text's walks alone
set_option linter.unusedVariables false
set_option linter.unusedSimpArgs false



def errW : Option Int → Value
  | none => .nilIface
  | some c => .iface 46 (.int .i64 c)
theorem errW_none : errW none = .nilIface := rfl
theorem errW_some (c : Int) : errW (some c) = .iface 46 (.int .i64 c) := rfl

theorem info5 : (Tryd.prog.info? 5).map (fun i => (i.zero, i.size, i.bytes)) = some (some (.int .u8 0), 1, 1) := by kernel_rfl
-- the values' own types

end Go.Proofs.YtalkodandfjkmaaDoor.Print
