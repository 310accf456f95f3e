/- What all printed functions stand on: the program's table with its summaries. -/
import Derived.Test.YtnoaglgjhgnnfaaAvS
import Derived.Test.YtnoaglgjhgnnfaaAvY
import Derived.Test.YtnoaglgjhgnnfaaCln
import Derived.Test.YtnoaglgjhgnnfaaTm
import Derived.Test.YtnoaglgjhgnnfaaTx
set_option maxRecDepth 100000
namespace Go.Proofs.Ytnoaglgjhgnnfaa.Ag
open Go Go.RowKit Go.Proofs.Ytnoaglgjhgnnfaa.Av Go.Proofs.Ytnoaglgjhgnnfaa.AvT Go.Proofs.Ytnoaglgjhgnnfaa.AvS

def G0 : World → Prop := fun _ => True
theorem hG0 : ∀ w w', G0 w → Below w.heap.size w w' → G0 w' := fun _ _ _ _ => trivial
theorem hM : Try.prog.follows .mixedOrders = true := by kernel_rfl
noncomputable def m0 : Nat → Option (List AV → Option (AV × List Blk)) := fun n => match n with
  | 48 => some tmM
  | 47 => some txM
  | 102 => some cloneM
  | _ => none
theorem ok0 : CtxOk Try.prog (ctx m0) G0 := ctx_ok m0 (by
  intro n f h
  unfold m0 at h
  split at h
  · cases h; exact ⟨(tm_models hG0), _, Try.func48, rfl, by decide⟩
  · cases h; exact ⟨(tx_models hG0), _, Try.func47, rfl, by decide⟩
  · cases h; exact ⟨(clone_models hG0), _, Try.func102, rfl, by decide⟩
  · cases h)
end Go.Proofs.Ytnoaglgjhgnnfaa.Ag
