/- What all printed functions stand on: the program's table with its summaries. -/
import Derived.Test.YtkifbcjmmkbilaaAvS
import Derived.Test.YtkifbcjmmkbilaaAvY
import Derived.Test.YtkifbcjmmkbilaaAl
import Derived.Test.YtkifbcjmmkbilaaClbP
import Derived.Test.YtkifbcjmmkbilaaTnQ
set_option maxRecDepth 100000
namespace Go.Proofs.Ytkifbcjmmkbilaa.Ag
open Go Go.RowKit Go.Proofs.Ytkifbcjmmkbilaa.Av Go.Proofs.Ytkifbcjmmkbilaa.AvT Go.Proofs.Ytkifbcjmmkbilaa.AvS

def G0 : World → Prop := fun _ => True
theorem hG0 : ∀ w w', G0 w → Below w.heap.size w w' → G0 w' := fun _ _ _ _ => trivial
theorem hM : Try.prog.follows .mixedOrders = true := by kernel_rfl
noncomputable def sq0 : Nat → Option (List AV → Option (List (List AV))) := fun n => match n with
  | 23 => some Tn.turnsSeq
  | _ => none
noncomputable def m0 : Nat → Option (List AV → Option (AV × List Blk)) := fun n => match n with
  | 22 => some clobM
  | 9 => some allM
  | _ => none
theorem ok0 : CtxOk Try.prog (ctx m0 sq0) G0 := ctx_ok m0 (by
  intro n f h
  unfold m0 at h
  split at h
  · cases h; exact ⟨(clob_models hG0), _, Try.func22, rfl, by decide⟩
  · cases h; exact ⟨(all_models hG0), _, Try.func9, rfl, by decide⟩
  · cases h) sq0 (by
  intro n f h
  unfold sq0 at h
  split at h
  · cases h; exact ⟨(Tn.turns_ok), _, Try.func23, rfl, by decide⟩
  · cases h)
/-- Errors. -/
def eV (e : Er) : Value := match e with
  | .ok => .nilIface
  | .no n => .iface 48 (.int .i64 n)
  | .at n i => .iface 48 (.agg #[.int .i64 n, .int .i64 i])
def er (e : Er) : AV := .v (eV e)
def eEr (e : Er) : List AV := [er e]
theorem er_nil {C : Ctx} {t : Nat} (h : C.td t = .one .nilIface) (e : Er) : eqA C t true (er e) (.v .nilIface) = some e.isOk := by
  cases e <;> simp only [eqA, er, eV, Bool.true_or, if_true, h] <;> rfl
theorem er_nil' {C : Ctx} {t : Nat} (h : C.td t = .one .nilIface) (e : Er) : eqA C t true (.v .nilIface) (er e) = some e.isOk := by
  cases e <;> simp only [eqA, er, eV, Bool.true_or, if_true, h] <;> rfl
end Go.Proofs.Ytkifbcjmmkbilaa.Ag
