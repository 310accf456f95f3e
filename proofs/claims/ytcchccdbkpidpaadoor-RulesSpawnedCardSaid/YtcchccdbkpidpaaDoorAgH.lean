/- What all printed functions stand on: the program's table with its summaries. -/
import Derived.Test.YtcchccdbkpidpaaDoorAvS
import Derived.Test.YtcchccdbkpidpaaDoorAvY
import Derived.Test.YtcchccdbkpidpaaDoorAvPl
set_option maxRecDepth 100000
namespace Go.Proofs.YtcchccdbkpidpaaDoor.Ag
open Go Go.RowKit Go.Proofs.YtcchccdbkpidpaaDoor.Av Go.Proofs.YtcchccdbkpidpaaDoor.AvT Go.Proofs.YtcchccdbkpidpaaDoor.AvS
open Go.Proofs.YtcchccdbkpidpaaDoor.As (Glob)

def G0 : World → Prop := Glob
theorem hG0 : ∀ w w', G0 w → Below w.heap.size w w' → G0 w' := hGlob
theorem hM : Tryd.prog.follows .mixedOrders = true := by kernel_rfl
noncomputable def m0 : Nat → Option (List AV → Option (AV × List Blk)) := fun n => match n with
  | 10 => some plainM
  | _ => none
theorem ok0 : CtxOk Tryd.prog (ctx m0) G0 := ctx_ok m0 (by
  intro n f h
  unfold m0 at h
  split at h
  · cases h; exact ⟨plain_models, _, Tryd.func10, rfl, by decide⟩
  · cases h)
/-- Errors. -/
def er (e : Er) : AV := match e with
  | .ok => .v .nilIface
  | .no n => .ifc 54 (.v (.int .i64 n))
  | .at n i => .ifc 56 (.agg [.v (.int .i64 n), .v (.int .i64 i)])
def eEr (e : Er) : List AV := [er e]
end Go.Proofs.YtcchccdbkpidpaaDoor.Ag
