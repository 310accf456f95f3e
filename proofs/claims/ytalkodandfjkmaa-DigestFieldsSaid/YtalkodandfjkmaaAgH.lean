/- What all printed functions stand on: the program's table with its summaries. -/
import Derived.Test.YtalkodandfjkmaaAvS
import Derived.Test.YtalkodandfjkmaaMg1
import Derived.Test.YtalkodandfjkmaaTm
import Derived.Test.YtalkodandfjkmaaWk
set_option maxRecDepth 100000
namespace Go.Proofs.Ytalkodandfjkmaa.Ag
open Go Go.RowKit Go.Proofs.Ytalkodandfjkmaa.Av Go.Proofs.Ytalkodandfjkmaa.AvT Go.Proofs.Ytalkodandfjkmaa.AvS

def G0 : World → Prop := fun _ => True
theorem hG0 : ∀ w w', G0 w → Below w.heap.size w w' → G0 w' := fun _ _ _ _ => trivial
theorem hM : Try.prog.follows .mixedOrders = true := by kernel_rfl
noncomputable def m0 : Nat → Option (List AV → Option (AV × List Blk)) := fun n => match n with
  | 14 => some tmM
  | 17 => some worksM
  | _ => none
theorem ok0 : CtxOk Try.prog (ctx m0) G0 := ctx_ok m0 (by
  intro n f h
  unfold m0 at h
  split at h
  · cases h; exact ⟨(tm_models hG0), _, Try.func14, rfl, by decide⟩
  · cases h; exact ⟨(works_models hG0), _, Try.func17, rfl, by decide⟩
  · cases h)
end Go.Proofs.Ytalkodandfjkmaa.Ag
