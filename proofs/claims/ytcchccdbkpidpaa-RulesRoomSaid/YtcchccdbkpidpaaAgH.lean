/- What all printed functions stand on: the program's table with its summaries. -/
import Derived.Test.YtcchccdbkpidpaaAvS
import Derived.Test.YtcchccdbkpidpaaAvY
import Derived.Test.YtcchccdbkpidpaaTwP
set_option maxRecDepth 100000
namespace Go.Proofs.Ytcchccdbkpidpaa.Ag
open Go Go.RowKit Go.Proofs.Ytcchccdbkpidpaa.Av Go.Proofs.Ytcchccdbkpidpaa.AvT Go.Proofs.Ytcchccdbkpidpaa.AvS

def G0 : World → Prop := fun _ => True
theorem hG0 : ∀ w w', G0 w → Below w.heap.size w w' → G0 w' := fun _ _ _ _ => trivial
theorem hM : Try.prog.follows .mixedOrders = true := by kernel_rfl
noncomputable def m0 : Nat → Option (List AV → Option (AV × List Blk)) := fun n => match n with
  | 41 => some twiceM
  | _ => none
theorem ok0 : CtxOk Try.prog (ctx m0) G0 := ctx_ok m0 (by
  intro n f h
  unfold m0 at h
  split at h
  · cases h; exact ⟨(twice_models hG0), _, Try.func41, rfl, by decide⟩
  · cases h)
/-- Errors. -/
def er (e : Er) : AV := match e with
  | .ok => .v .nilIface
  | .no n => .ifc 62 (.v (.int .i64 n))
  | .at n i => .ifc 64 (.agg [.v (.int .i64 n), .v (.int .i64 i)])
def eEr (e : Er) : List AV := [er e]
end Go.Proofs.Ytcchccdbkpidpaa.Ag
