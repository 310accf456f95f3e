/- RulesCounted, in plain Lean. -/
import Derived.Test.YtcchccdbkpidpaaAhCo
set_option maxRecDepth 100000
set_option linter.unusedVariables false
set_option linter.unusedSimpArgs false
namespace Go.Proofs.Ytcchccdbkpidpaa.Ag
open Go Go.RowKit Go.Proofs.Ytcchccdbkpidpaa.Av Go.Proofs.Ytcchccdbkpidpaa.AvT Go.Proofs.Ytcchccdbkpidpaa.AvS

theorem pure_RulesCounted (f : Fleet) (name : ByteArray) (O0 : OkFleet f) (O1 : name.size ≤ 140737488351232) : law16_RulesCounted f name = some true := by
  unfold law16_RulesCounted
  rcases big_cases f with h | ⟨h, hl⟩
  · rw [h]; rfl
  have hf := okFl_of O0 hl
  have hn := hf.n
  have hd := hf.d
  have hb := hf.b
  obtain ⟨a, ha⟩ := Owned_some f name hf.p
  obtain ⟨b, hb'⟩ := Ready_some f name hf.p
  obtain ⟨c, hc⟩ := Used_some f name hf.p
  rw [h, Option.bind_some, cond_false, kit_LentFleet_eq f hf, Option.bind_some, Owned_same, ha, Option.bind_some, Option.bind_some, decide_eq_true rfl, cond_true, Ready_same, hb', Option.bind_some, Option.bind_some, decide_eq_true rfl, cond_true, Used_same, hc, Option.bind_some, Option.bind_some, decide_eq_true rfl, decide_eq_true rfl]
  rw [show (true && (true && true)) = true from rfl, cond_true, if_pos (by omega)]
  rw [rnd_pass (step := law16_RulesCounted_0_s f f) f.Deploys.length 0 (fun j _ hj => by
    obtain ⟨x, hx⟩ := Owned_some f (el f.Deploys j).Name hf.p
    obtain ⟨y, hy⟩ := Ready_some f (el f.Deploys j).Name hf.p
    unfold law16_RulesCounted_0_s
    rw [Owned_same, hx, Ready_same, hy]
    simp only [optRes, decide_true, cond_true])]
  simp only [Res.opt]
  rw [if_pos (by omega), rnd_pass (step := law16_RulesCounted_1_s f f) f.Nodes.length 0 (fun j _ hj => by
    obtain ⟨x, hx⟩ := Used_some f (el f.Nodes j).Name hf.p
    unfold law16_RulesCounted_1_s
    rw [Used_same, hx]
    simp only [optRes, decide_true, Bool.and_true, cond_true])]
  simp only []
  rw [if_pos (by omega), rnd_pass (step := law16_RulesCounted_2_s f f) f.Budgets.length 0 (fun j _ hj => by
    have hz := hf.lb _ (el_mem (l := f.Budgets) (i := j) (by omega))
    obtain ⟨x, hx, _⟩ := Guarded_some f (el f.Budgets j) hf.p hf.lp hz
    unfold law16_RulesCounted_2_s
    rw [if_pos (by omega), Guarded_same f _ hf.lp hz, hx]
    simp only [optRes, decide_true, cond_true])]
  simp only []
  rw [kit_KeptFleet_eq f hf]
  rfl
end Go.Proofs.Ytcchccdbkpidpaa.Ag
