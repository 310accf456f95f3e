/- What all printed functions stand on: the program's table with its summaries. -/
import Derived.Test.YtcchccdbkpidpaaAvS
import Derived.Test.YtcchccdbkpidpaaAvY
import Derived.Test.YtcchccdbkpidpaaMtM
import Derived.Test.YtcchccdbkpidpaaNuM
import Derived.Test.YtcchccdbkpidpaaTwP
set_option maxRecDepth 100000
namespace Go.Proofs.Ytcchccdbkpidpaa.Ag
open Go Go.RowKit Go.Proofs.Ytcchccdbkpidpaa.Av Go.Proofs.Ytcchccdbkpidpaa.AvT Go.Proofs.Ytcchccdbkpidpaa.AvS

def G0 : World → Prop := fun _ => True
theorem hG0 : ∀ w w', G0 w → Below w.heap.size w w' → G0 w' := fun _ _ _ _ => trivial
theorem hM : Try.prog.follows .mixedOrders = true := by kernel_rfl
noncomputable def m0 : Nat → Option (List AV → Option (AV × List Blk)) := fun n => match n with
  | 41 => some twiceM
  | 29 => some Ak.matchesM
  | 30 => some numM
  | _ => none
theorem ok0 : CtxOk Try.prog (ctx m0) G0 := ctx_ok m0 (by
  intro n f h
  unfold m0 at h
  split at h
  · cases h; exact ⟨(twice_models hG0), _, Try.func41, rfl, by decide⟩
  · cases h; exact ⟨(Ak.matches_models), _, Try.func29, rfl, by decide⟩
  · cases h; exact ⟨(num_models hG0), _, Try.func30, rfl, by decide⟩
  · cases h)
/-- Errors. -/
def eV (e : Er) : Value := match e with
  | .ok => .nilIface
  | .no n => .iface 62 (.int .i64 n)
  | .at n i => .iface 64 (.agg #[.int .i64 n, .int .i64 i])
def er (e : Er) : AV := .v (eV e)
def eEr (e : Er) : List AV := [er e]
theorem er_nil {C : Ctx} {t : Nat} (h : C.td t = .one .nilIface) (e : Er) : eqA C t true (er e) (.v .nilIface) = some e.isOk := by
  cases e <;> simp only [eqA, er, eV, Bool.true_or, if_true, h] <;> rfl
theorem er_nil' {C : Ctx} {t : Nat} (h : C.td t = .one .nilIface) (e : Er) : eqA C t true (.v .nilIface) (er e) = some e.isOk := by
  cases e <;> simp only [eqA, er, eV, Bool.true_or, if_true, h] <;> rfl
end Go.Proofs.Ytcchccdbkpidpaa.Ag
