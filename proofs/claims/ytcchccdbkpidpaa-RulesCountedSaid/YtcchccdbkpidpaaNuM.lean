/- flotillakit.Num as a summary, of no error or a number (no variable of package errors is asked for). -/
import Derived.Test.YtcchccdbkpidpaaErr
import Derived.Test.YtcchccdbkpidpaaAvY
import Derived.Test.YtcchccdbkpidpaaAvB
set_option linter.unusedVariables false
set_option linter.unusedSimpArgs false
namespace Go.Proofs.Ytcchccdbkpidpaa.Ag
open Go Go.RowKit Go.Proofs.Ytcchccdbkpidpaa.Av

/-- The error's number. -/
def numV : Value → Option Int
  | .nilIface => some 0
  | .iface t (.int .i64 n) => match Nat.beq t 62 with | true => some (Err.numOf n) | false => none
  | _ => none
def numM : List AV → Option (AV × List Blk)
  | [.v x] => match numV x with | some n => some (.v (.int .i64 n), []) | none => none
  | _ => none
theorem numV_calls {x : Value} {n : Int} (h : numV x = some n) (w : World) : Calls Try.prog 30 #[x] w fun e w' => e = .returned (.int .i64 n) ∧ Below w.heap.size w w' := by
  unfold numV at h
  split at h
  · obtain rfl := Option.some.inj h
    exact (Err.num_nil w).mono fun e w' ⟨he, hw⟩ => ⟨he, hw ▸ Below.refl _ _⟩
  · rename_i t c
    split at h
    · rename_i ht
      obtain rfl := Nat.eq_of_beq_eq_true ht
      obtain rfl := Option.some.inj h
      exact (Err.num_int c w).mono fun e w' ⟨he, hw⟩ => ⟨he, hw ▸ Below.refl _ _⟩
    · cases h
  · cases h
theorem num_models {G : World → Prop} (hG : ∀ w w', G w → Below w.heap.size w w' → G w') : Models Try.prog G 30 numM := by
  refine models_of_calls hG fun S w bs vs r Hr hvs hg e => ?_
  unfold numM at e
  split at e
  · rename_i x
    split at e
    · rename_i n he
      simp only [Option.some.injEq, Prod.mk.injEq] at e
      obtain ⟨rfl, rfl⟩ := e
      obtain ⟨u, us, rfl, hx, hr⟩ := hvs.tail
      obtain rfl := hr.nil_inv
      cases hx
      exact ⟨_, rfl, rfl, numV_calls he w⟩
    · cases e
  · cases e
end Go.Proofs.Ytcchccdbkpidpaa.Ag
