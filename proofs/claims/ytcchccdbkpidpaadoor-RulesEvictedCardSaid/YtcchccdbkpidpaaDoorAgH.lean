/- What all printed functions stand on: the program's table with its summaries. -/
import Derived.Test.YtcchccdbkpidpaaDoorAvS
import Derived.Test.YtcchccdbkpidpaaDoorAvY
import Derived.Test.YtcchccdbkpidpaaDoorAvPl
import Derived.Test.YtcchccdbkpidpaaDoorMtM
import Derived.Test.YtcchccdbkpidpaaDoorPlc
import Derived.Test.YtcchccdbkpidpaaDoorTwP
set_option maxRecDepth 100000
namespace Go.Proofs.YtcchccdbkpidpaaDoor.Ag
open Go Go.RowKit Go.Proofs.YtcchccdbkpidpaaDoor.Av Go.Proofs.YtcchccdbkpidpaaDoor.AvT Go.Proofs.YtcchccdbkpidpaaDoor.AvS
open Go.Proofs.YtcchccdbkpidpaaDoor.As (Glob)

def G0 : World → Prop := Glob
theorem hG0 : ∀ w w', G0 w → Below w.heap.size w w' → G0 w' := hGlob
theorem hM : Tryd.prog.follows .mixedOrders = true := by kernel_rfl
noncomputable def m0 : Nat → Option (List AV → Option (AV × List Blk)) := fun n => match n with
  | 10 => some plainM
  | 24 => some numM
  | 42 => some placeM
  | 43 => some twiceM
  | 67 => some Ak.matchesM
  | _ => none
theorem ok0 : CtxOk Tryd.prog (ctx m0) G0 := ctx_ok m0 (by
  intro n f h
  unfold m0 at h
  split at h
  · cases h; exact ⟨plain_models, _, Tryd.func10, rfl, by decide⟩
  · cases h; exact ⟨num_models, _, Tryd.func24, rfl, by decide⟩
  · cases h; exact ⟨place_models, _, Tryd.func42, rfl, by decide⟩
  · cases h; exact ⟨(twice_models hG0), _, Tryd.func43, rfl, by decide⟩
  · cases h; exact ⟨(Ak.matches_models), _, Tryd.func67, rfl, by decide⟩
  · cases h)
/-- Errors. -/
def eV (e : Er) : Value := match e with
  | .ok => .nilIface
  | .no n => .iface 54 (.int .i64 n)
  | .at n i => .iface 56 (.agg #[.int .i64 n, .int .i64 i])
def er (e : Er) : AV := .v (eV e)
def eEr (e : Er) : List AV := [er e]
theorem er_nil {C : Ctx} {t : Nat} (h : C.td t = .one .nilIface) (e : Er) : eqA C t true (er e) (.v .nilIface) = some e.isOk := by
  cases e <;> simp only [eqA, er, eV, Bool.true_or, if_true, h] <;> rfl
theorem er_nil' {C : Ctx} {t : Nat} (h : C.td t = .one .nilIface) (e : Er) : eqA C t true (.v .nilIface) (er e) = some e.isOk := by
  cases e <;> simp only [eqA, er, eV, Bool.true_or, if_true, h] <;> rfl
end Go.Proofs.YtcchccdbkpidpaaDoor.Ag
