/- digest.Text as a summary. -/
import Derived.Test.YtnoaglgjhgnnfaaDig
import Derived.Test.YtnoaglgjhgnnfaaAvX
import Derived.Test.YtnoaglgjhgnnfaaAvB
set_option linter.unusedVariables false
namespace Go.Proofs.Ytnoaglgjhgnnfaa.Ag
open Go Go.RowKit Go.Proofs.Ytnoaglgjhgnnfaa.Av
def txM : List AV → Option (AV × List Blk)
  | [.v (.int .u64 h)] => some (.v (.string (Dig.textB h)), [])
  | _ => none
theorem tx_models {G : World → Prop} (hG : ∀ w w', G w → Below w.heap.size w w' → G w') : Models Try.prog G 47 txM := by
  refine models_of_calls hG fun S w bs vs r Hr hvs hg e => ?_
  unfold txM at e
  split at e
  · rename_i h
    simp only [Option.some.injEq, Prod.mk.injEq] at e
    obtain ⟨rfl, rfl⟩ := e
    obtain ⟨u, us, rfl, hx, hr⟩ := hvs.tail
    obtain rfl := hr.nil_inv
    cases hx
    exact ⟨_, rfl, rfl, Dig.text_calls h w⟩
  · cases e
def txQ (h : Int) : ByteArray := Dig.textB h
theorem txM_eq (h : Int) : txM [.v (.int .u64 h)] = some (.v (.string (txQ h)), []) := rfl
end Go.Proofs.Ytnoaglgjhgnnfaa.Ag
