/- What all printed functions stand on: the program's table with its summaries. -/
import Derived.Test.YtdagejfcnjndpaaAvS
import Derived.Test.YtdagejfcnjndpaaAvY
import Derived.Test.YtdagejfcnjndpaaSqL
set_option maxRecDepth 100000
namespace Go.Proofs.Ytdagejfcnjndpaa.Ag
open Go Go.RowKit Go.Proofs.Ytdagejfcnjndpaa.Av Go.Proofs.Ytdagejfcnjndpaa.AvT Go.Proofs.Ytdagejfcnjndpaa.AvS

def G0 : World → Prop := fun _ => True
theorem hG0 : ∀ w w', G0 w → Below w.heap.size w w' → G0 w' := fun _ _ _ _ => trivial
theorem hM : Try.prog.follows .mixedOrders = true := by kernel_rfl
noncomputable def sq0 : Nat → Option (List AV → Option (List (List AV))) := fun n => match n with
  | 15 => some Sq.comSeq
  | _ => none
def m0 : Nat → Option (List AV → Option (AV × List Blk)) := fun _ => none
theorem ok0 : CtxOk Try.prog (ctx m0 sq0) G0 := ctx_ok m0 (by
  intro n f h
  cases h) sq0 (by
  intro n f h
  unfold sq0 at h
  split at h
  · cases h; exact ⟨(Sq.comSeq_ok), _, Try.func15, rfl, by decide⟩
  · cases h)
end Go.Proofs.Ytdagejfcnjndpaa.Ag
