/- RulesSpawned, in plain Lean: the program's answer is the document's, and what was lent was kept. -/
import Derived.Test.YtcchccdbkpidpaaDoorAg3
import Derived.Test.YtcchccdbkpidpaaDoorAh2
set_option maxRecDepth 100000
set_option linter.unusedVariables false
set_option linter.unusedSimpArgs false
namespace Go.Proofs.YtcchccdbkpidpaaDoor.Ag
open Go Go.RowKit Go.Proofs.YtcchccdbkpidpaaDoor.Av Go.Proofs.YtcchccdbkpidpaaDoor.AvT Go.Proofs.YtcchccdbkpidpaaDoor.AvS

theorem big_cases (f : Fleet) : law16_big f = some true ∨ (law16_big f = some false ∧ f.Nodes.length ≤ 300 ∧ f.Pods.length ≤ 300 ∧ f.Deploys.length ≤ 300 ∧ f.Budgets.length ≤ 300) := by
  unfold law16_big
  by_cases h1 : (300 : Int) < ((f.Nodes.length : Nat) : Int)
  · exact .inl (by rw [decide_eq_true h1]; rfl)
  rw [decide_eq_false h1, cond_false]
  by_cases h2 : (300 : Int) < ((f.Pods.length : Nat) : Int)
  · exact .inl (by rw [decide_eq_true h2]; rfl)
  rw [decide_eq_false h2, cond_false]
  by_cases h3 : (300 : Int) < ((f.Deploys.length : Nat) : Int)
  · exact .inl (by rw [decide_eq_true h3]; rfl)
  rw [decide_eq_false h3, cond_false]
  by_cases h4 : (300 : Int) < ((f.Budgets.length : Nat) : Int)
  · exact .inl (by rw [decide_eq_true h4])
  rw [decide_eq_false h4]
  exact .inr ⟨rfl, by omega, by omega, by omega, by omega⟩
theorem okFl_of {f : Fleet} (h : OkFleet f) (n : f.Nodes.length ≤ 300 ∧ f.Pods.length ≤ 300 ∧ f.Deploys.length ≤ 300 ∧ f.Budgets.length ≤ 300) : OkFl f := by
  obtain ⟨⟨_, _, h1⟩, ⟨_, _, h2⟩, ⟨_, _, h3⟩, ⟨_, _, h4⟩⟩ := h
  exact ⟨n.1, n.2.1, n.2.2.1, n.2.2.2, fun o ho => okLab_of (h1 o ho), fun o ho => okLab_of (h2 o ho), fun o ho => okLab_of (h3 o ho), fun o ho => okLab_of (h4 o ho)⟩
theorem Owned_same (f : Fleet) (d : ByteArray) : rules_Owned f d = ref16_Owned f d := rfl
theorem Owned_some (f : Fleet) (d : ByteArray) (h : f.Pods.length ≤ 300) : ∃ n, ref16_Owned f d = some n := by
  unfold ref16_Owned
  rw [if_pos (by omega)]
  obtain ⟨s, e⟩ := rnd_go (step := ref16_Owned_0_s f d) (k := f.Pods.length) (i := 0) (s := (0 : Int)) (fun j s _ hj => by
    unfold ref16_Owned_0_s
    cases decide ((el f.Pods j).Deploy = d) <;> cases (el f.Pods j).Ending <;> simp)
  rw [e]
  exact ⟨s, rfl⟩
theorem spawn_both (f : Fleet) (pod : Object) (h : OkFl f) : ∃ e n, rules_Spawn f pod = some e ∧ ref16_Spawn f pod = some n ∧ plainQ e n = true ∧ ∀ a b, e ≠ .at a b := by
  have hn := h.d
  unfold rules_Spawn ref16_Spawn ref16_Find
  rw [if_pos (by omega), if_pos (by omega)]
  have hsame : rules_Spawn_0_s f pod = ref16_Find_0_s f.Deploys pod.Deploy := rfl
  rw [hsame]
  rcases rnd_find (p := fun j => decide ((el f.Deploys j).Name = pod.Deploy)) (step := ref16_Find_0_s f.Deploys pod.Deploy) f.Deploys.length 0 (fun j _ _ => rfl) with ⟨e, _⟩ | ⟨j, _, hj, e, _, _⟩
  · rw [e]
    exact ⟨.no 10, 10, rfl, rfl, by decide, fun a b => by simp⟩
  · rw [e]
    obtain ⟨n, hn⟩ := Owned_some f (el f.Deploys j).Name h.p
    simp only [Res.opt, Option.bind_some]
    rw [show (decide (((j : Nat) : Int) < (0 : Int))) = false from decide_eq_false (by omega)]
    simp only [cond_false]
    rw [if_pos (by omega), if_pos (by omega), Int.toNat_natCast, Owned_same, hn]
    simp only [Option.bind_some, rules_held, ref16_Held]
    cases decide ((IntKind.i64.wrap (min (max (el f.Deploys j).Count (-1125899906842624)) 1125899906842624 + min (max (el f.Deploys j).Surge (-1125899906842624)) 1125899906842624)) ≤ n) with
    | true => exact ⟨.no 20, 20, rfl, rfl, by decide, fun a b => by simp⟩
    | false => exact ⟨.ok, 0, rfl, rfl, by decide, fun a b => by simp⟩
theorem pure_RulesSpawned (f : Fleet) (pod : Object) (O0 : OkFleet f) (O1 : OkObject pod) : law16_RulesSpawned f pod = some true := by
  unfold law16_RulesSpawned
  rcases big_cases f with h | ⟨h, hl⟩
  · rw [h]; rfl
  rw [h]
  have hf := okFl_of O0 hl
  have ho := okLab_of O1
  obtain ⟨e, n, h1, h2, h3, h4⟩ := spawn_both f pod hf
  rw [Option.bind_some, cond_false, kit_LentFleet_eq f hf, Option.bind_some, kit_LentObject_eq pod ho, Option.bind_some, h1, Option.bind_some]
  cases e with
  | ok => simp only [Er.elim, h2, Option.bind_some, h3, cond_true, kit_KeptFleet_eq f hf, kit_KeptObject_eq pod ho]
  | no a => simp only [Er.elim, h2, Option.bind_some, h3, cond_true, kit_KeptFleet_eq f hf, kit_KeptObject_eq pod ho]
  | «at» a b => exact absurd rfl (h4 a b)
end Go.Proofs.YtcchccdbkpidpaaDoor.Ag
