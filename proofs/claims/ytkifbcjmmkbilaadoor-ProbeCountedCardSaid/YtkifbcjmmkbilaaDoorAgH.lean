/- What all printed functions stand on: the program's table with its summaries. -/
import Derived.Test.YtkifbcjmmkbilaaDoorAvS
import Derived.Test.YtkifbcjmmkbilaaDoorAvY
import Derived.Test.YtkifbcjmmkbilaaDoorAl
import Derived.Test.YtkifbcjmmkbilaaDoorAvPl
set_option maxRecDepth 100000
namespace Go.Proofs.YtkifbcjmmkbilaaDoor.Ag
open Go Go.RowKit Go.Proofs.YtkifbcjmmkbilaaDoor.Av Go.Proofs.YtkifbcjmmkbilaaDoor.AvT Go.Proofs.YtkifbcjmmkbilaaDoor.AvS
open Go.Proofs.YtkifbcjmmkbilaaDoor.As (Glob)

def G0 : World → Prop := Glob
theorem hG0 : ∀ w w', G0 w → Below w.heap.size w w' → G0 w' := hGlob
theorem hM : Tryd.prog.follows .mixedOrders = true := by kernel_rfl
noncomputable def m0 : Nat → Option (List AV → Option (AV × List Blk)) := fun n => match n with
  | 8 => some plainM
  | 6 => some allM
  | _ => none
theorem ok0 : CtxOk Tryd.prog (ctx m0) G0 := ctx_ok m0 (by
  intro n f h
  unfold m0 at h
  split at h
  · cases h; exact ⟨plain_models, _, Tryd.func8, rfl, by decide⟩
  · cases h; exact ⟨(all_models hG0), _, Tryd.func6, rfl, by decide⟩
  · cases h)
/-- Errors. -/
def eV (e : Er) : Value := match e with
  | .ok => .nilIface
  | .no n => .iface 44 (.int .i64 n)
  | .at n i => .iface 49 (.agg #[.int .i64 n, .int .i64 i])
def er (e : Er) : AV := .v (eV e)
def eEr (e : Er) : List AV := [er e]
theorem er_nil {C : Ctx} {t : Nat} (h : C.td t = .one .nilIface) (e : Er) : eqA C t true (er e) (.v .nilIface) = some e.isOk := by
  cases e <;> simp only [eqA, er, eV, Bool.true_or, if_true, h] <;> rfl
theorem er_nil' {C : Ctx} {t : Nat} (h : C.td t = .one .nilIface) (e : Er) : eqA C t true (.v .nilIface) (er e) = some e.isOk := by
  cases e <;> simp only [eqA, er, eV, Bool.true_or, if_true, h] <;> rfl
end Go.Proofs.YtkifbcjmmkbilaaDoor.Ag
