/- flotillalaw05's works as a summary. -/
import Derived.Test.YtalkodandfjkmaaPrintx4
import Derived.Test.YtalkodandfjkmaaMg1
set_option linter.unusedVariables false
namespace Go.Proofs.Ytalkodandfjkmaa.Ag
open Go Go.RowKit Go.Proofs.Ytalkodandfjkmaa.Av
/-- It works. -/
def worksM : List AV → Option (AV × List Blk)
  | [] => some (.v (.bool true), [])
  | _ => none
theorem works_models {G : World → Prop} (hG : ∀ w w', G w → Below w.heap.size w w' → G w') : Models Try.prog G 17 worksM := by
  refine models_of_calls hG fun S w bs vs r Hr hvs hg e => ?_
  unfold worksM at e
  split at e
  · simp only [Option.some.injEq, Prod.mk.injEq] at e
    obtain ⟨rfl, rfl⟩ := e
    obtain rfl := hvs.nil_inv
    exact ⟨_, rfl, rfl, Go.Proofs.Ytalkodandfjkmaa.Print.flotillalaw05_works.calls true w rfl⟩
  · cases e
theorem worksM_eq : worksM [] = some (.v (.bool true), []) := rfl
end Go.Proofs.Ytalkodandfjkmaa.Ag
