/- What all printed functions stand on: the program's table with its summaries. -/
import Derived.Test.YtalkodandfjkmaaDoorAvS
import Derived.Test.YtalkodandfjkmaaDoorMg2
import Derived.Test.YtalkodandfjkmaaDoorAvPl
import Derived.Test.YtalkodandfjkmaaDoorDk
import Derived.Test.YtalkodandfjkmaaDoorTm
set_option maxRecDepth 100000
namespace Go.Proofs.YtalkodandfjkmaaDoor.Ag
open Go Go.RowKit Go.Proofs.YtalkodandfjkmaaDoor.Av Go.Proofs.YtalkodandfjkmaaDoor.AvT Go.Proofs.YtalkodandfjkmaaDoor.AvS
open Go.Proofs.YtalkodandfjkmaaDoor.As (Glob)

def G0 : World → Prop := Glob
theorem hG0 : ∀ w w', G0 w → Below w.heap.size w w' → G0 w' := hGlob
theorem hM : Tryd.prog.follows .mixedOrders = true := by kernel_rfl
noncomputable def m0 : Nat → Option (List AV → Option (AV × List Blk)) := fun n => match n with
  | 9 => some plainM
  | 12 => some tmM
  | 10 => some worksM
  | 11 => some ofM
  | 7 => some txM
  | 6 => some paM
  | _ => none
theorem ok0 : CtxOk Tryd.prog (ctx m0) G0 := ctx_ok m0 (by
  intro n f h
  unfold m0 at h
  split at h
  · cases h; exact ⟨plain_models, _, Tryd.func9, rfl, by decide⟩
  · cases h; exact ⟨(tm_models hG0), _, Tryd.func12, rfl, by decide⟩
  · cases h; exact ⟨(works_models hG0), _, Tryd.func10, rfl, by decide⟩
  · cases h; exact ⟨(of_models hG0), _, Tryd.func11, rfl, by decide⟩
  · cases h; exact ⟨(tx_models hG0), _, Tryd.func7, rfl, by decide⟩
  · cases h; exact ⟨(pa_models hG0), _, Tryd.func6, rfl, by decide⟩
  · cases h)
/-- Errors. -/
def eV (e : Er) : Value := match e with
  | .ok => .nilIface
  | .no n => .iface 46 (.int .i64 n)
  | .at n i => .iface 50 (.agg #[.int .i64 n, .int .i64 i])
def er (e : Er) : AV := .v (eV e)
def eEr (e : Er) : List AV := [er e]
theorem er_nil {C : Ctx} {t : Nat} (h : C.td t = .one .nilIface) (e : Er) : eqA C t true (er e) (.v .nilIface) = some e.isOk := by
  cases e <;> simp only [eqA, er, eV, Bool.true_or, if_true, h] <;> rfl
theorem er_nil' {C : Ctx} {t : Nat} (h : C.td t = .one .nilIface) (e : Er) : eqA C t true (.v .nilIface) (er e) = some e.isOk := by
  cases e <;> simp only [eqA, er, eV, Bool.true_or, if_true, h] <;> rfl
end Go.Proofs.YtalkodandfjkmaaDoor.Ag
