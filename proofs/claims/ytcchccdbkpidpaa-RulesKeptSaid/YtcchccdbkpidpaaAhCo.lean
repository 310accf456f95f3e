/- What is counted, in plain Lean: the program's counts are the document's. -/
import Derived.Test.YtcchccdbkpidpaaAg4
import Derived.Test.YtcchccdbkpidpaaAh2
set_option maxRecDepth 100000
set_option linter.unusedVariables false
set_option linter.unusedSimpArgs false
namespace Go.Proofs.Ytcchccdbkpidpaa.Ag
open Go Go.RowKit Go.Proofs.Ytcchccdbkpidpaa.Av Go.Proofs.Ytcchccdbkpidpaa.AvT Go.Proofs.Ytcchccdbkpidpaa.AvS

theorem big_cases (f : Fleet) : law16_big f = some true ∨ (law16_big f = some false ∧ f.Nodes.length ≤ 300 ∧ f.Pods.length ≤ 300 ∧ f.Deploys.length ≤ 300 ∧ f.Budgets.length ≤ 300) := by
  unfold law16_big
  by_cases h1 : (300 : Int) < ((f.Nodes.length : Nat) : Int)
  · exact .inl (by rw [decide_eq_true h1]; rfl)
  rw [decide_eq_false h1, cond_false]
  by_cases h2 : (300 : Int) < ((f.Pods.length : Nat) : Int)
  · exact .inl (by rw [decide_eq_true h2]; rfl)
  rw [decide_eq_false h2, cond_false]
  by_cases h3 : (300 : Int) < ((f.Deploys.length : Nat) : Int)
  · exact .inl (by rw [decide_eq_true h3]; rfl)
  rw [decide_eq_false h3, cond_false]
  by_cases h4 : (300 : Int) < ((f.Budgets.length : Nat) : Int)
  · exact .inl (by rw [decide_eq_true h4])
  rw [decide_eq_false h4]
  exact .inr ⟨rfl, by omega, by omega, by omega, by omega⟩
theorem okFl_of {f : Fleet} (h : OkFleet f) (n : f.Nodes.length ≤ 300 ∧ f.Pods.length ≤ 300 ∧ f.Deploys.length ≤ 300 ∧ f.Budgets.length ≤ 300) : OkFl f := by
  obtain ⟨⟨_, _, h1⟩, ⟨_, _, h2⟩, ⟨_, _, h3⟩, ⟨_, _, h4⟩⟩ := h
  exact ⟨n.1, n.2.1, n.2.2.1, n.2.2.2, fun o ho => okLab_of (h1 o ho), fun o ho => okLab_of (h2 o ho), fun o ho => okLab_of (h3 o ho), fun o ho => okLab_of (h4 o ho)⟩
theorem Owned_same (f : Fleet) (d : ByteArray) : rules_Owned f d = ref16_Owned f d := rfl
theorem Owned_some (f : Fleet) (d : ByteArray) (h : f.Pods.length ≤ 300) : ∃ n, ref16_Owned f d = some n := by
  unfold ref16_Owned
  rw [if_pos (by omega)]
  obtain ⟨s, e⟩ := rnd_go (step := ref16_Owned_0_s f d) (k := f.Pods.length) (i := 0) (s := (0 : Int)) (fun j s _ hj => by
    unfold ref16_Owned_0_s
    cases decide ((el f.Pods j).Deploy = d) <;> cases (el f.Pods j).Ending <;> simp)
  rw [e]
  exact ⟨s, rfl⟩
theorem both_same (a b : Amount) : rules_both a b = ref16_both a b := by
  unfold rules_both ref16_both rules_held
  simp only [Option.bind_some]
  have h : ∀ n : Int, max (min (max n (-1125899906842624)) 1125899906842624) 0 = min (max n 0) 1125899906842624 := fun n => by omega
  rw [h, h]
theorem Used_same (f : Fleet) (node : ByteArray) : rules_Used f node = ref16_Used f node := by
  unfold rules_Used ref16_Used
  have : rules_Used_0_s node f = ref16_Used_0_s node f := by
    funext i s
    unfold rules_Used_0_s ref16_Used_0_s
    rw [both_same]
  rw [this]
theorem Used_some (f : Fleet) (node : ByteArray) (h : f.Pods.length ≤ 300) : ∃ a, ref16_Used f node = some a := by
  unfold ref16_Used
  rw [if_pos (by omega)]
  obtain ⟨s, e⟩ := rnd_go (step := ref16_Used_0_s node f) (k := f.Pods.length) (i := 0) (s := ((0 : Int), (0 : Int))) (fun j s _ hj => by
    unfold ref16_Used_0_s
    cases decide (node = (⟨#[]⟩ : ByteArray)) <;> cases decide ((el f.Pods j).Node = node) <;> simp [ref16_both, optRes])
  rw [e]
  exact ⟨_, rfl⟩
theorem rnd_congr {σ ρ : Type} {s1 s2 : Nat → σ → Res σ ρ} : ∀ (k i : Nat) (s : σ), (∀ j s, i ≤ j → j < i + k → s1 j s = s2 j s) → rndN s1 k i s = rndN s2 k i s
  | 0, _, _, _ => rfl
  | k + 1, i, s, h => by
    rw [rndN, rndN, h i s (Nat.le_refl _) (by omega)]
    cases s2 i s with
    | go s' => exact rnd_congr k (i + 1) s' fun j s h1 h2 => h j s (by omega) (by omega)
    | out _ => rfl
    | die => rfl
theorem has_eq (x : Label) (l : List Label) (h : l.length ≤ 4398046511000) : ref02_has l x = some (Ak.hasL x l) := by
  unfold ref02_has
  rw [if_pos (by omega), Ak.rnd_hit (p := fun q => (decide (x.Key = (el l q).Key)) && ((decide (x.Value = (el l q).Value)) && true)) (v := true) l.length 0 (fun q _ _ => by
    unfold ref02_has_0_s
    simp only [eq_comm (a := x.Key), eq_comm (a := x.Value)])]
  rw [Ak.any_el l (fun y => (decide (x.Key = y.Key)) && ((decide (x.Value = y.Value)) && true))]
  show Res.opt (bif Ak.hasL x l then _ else _) _ _ = _
  cases Ak.hasL x l <;> rfl
theorem not_any {α : Type} (p : α → Bool) : ∀ l : List α, (l.any fun x => !(p x)) = !(l.all p)
  | [] => rfl
  | x :: l => by rw [List.any_cons, List.all_cons, not_any p l, Bool.not_and]
theorem Matches_eq (a b : List Label) (ha : a.length ≤ 4398046511000) (hb : b.length ≤ 4398046511000) : ref02_Matches a b = some (Ak.matchesQ a b) := by
  unfold ref02_Matches
  rw [if_pos (by omega), Ak.rnd_hit (p := fun q => !(Ak.hasL (el a q) b)) (v := ()) a.length 0 (fun q _ _ => by
    unfold ref02_Matches_0_s
    rw [has_eq _ _ hb]
    cases Ak.hasL (el a q) b <;> rfl)]
  rw [Ak.any_el a (fun x => !(Ak.hasL x b)), not_any]
  show _ = some (a.all fun x => Ak.hasL x b)
  cases a.all fun x => Ak.hasL x b <;> rfl
theorem Guarded_same (f : Fleet) (b : Object) (hp : ∀ o ∈ f.Pods, OkLab o) (hb : OkLab b) : rules_Guarded f b = ref16_Guarded f b := by
  unfold rules_Guarded ref16_Guarded
  rw [rnd_congr (s2 := ref16_Guarded_0_s f b) f.Pods.length 0 _ (fun j s _ hj => by
    have h1 := (hp _ (el_mem (l := f.Pods) (i := j) (by omega))).1
    unfold rules_Guarded_0_s rules_Guarded_j1 rules_Guarded_j0 ref16_Guarded_0_s
    rw [Matches_eq _ _ hb.2 h1, if_pos ⟨hb.2, h1⟩]
    cases (el f.Pods j).Ready <;> cases (el f.Pods j).Ending <;> cases Ak.matchesQ b.Select (el f.Pods j).Labels <;> rfl)]
theorem Guarded_some (f : Fleet) (b : Object) (hn : f.Pods.length ≤ 300) (hp : ∀ o ∈ f.Pods, OkLab o) (hb : OkLab b) : ∃ g, ref16_Guarded f b = some g ∧ 0 ≤ g ∧ g ≤ 300 := by
  unfold ref16_Guarded
  rw [if_pos (by omega)]
  obtain ⟨s, e, h⟩ := rnd_inv (step := ref16_Guarded_0_s f b) (I := fun j (s : Int) => 0 ≤ s ∧ s ≤ ((j : Nat) : Int)) f.Pods.length 0 0 (by constructor <;> omega) (fun j s _ hj hI => by
    have h1 := (hp _ (el_mem (l := f.Pods) (i := j) (by omega))).1
    obtain ⟨ha, hz⟩ := hI
    unfold ref16_Guarded_0_s
    rw [Matches_eq _ _ hb.2 h1]
    have hw : IntKind.i64.wrap (s + 1) = s + 1 := i64_small (by omega)
    cases (el f.Pods j).Ready <;> cases (el f.Pods j).Ending <;> cases Ak.matchesQ b.Select (el f.Pods j).Labels <;> first | exact ⟨_, rfl, by omega, by omega⟩ | exact ⟨_, congrArg Res.go hw, by omega, by omega⟩)
  rw [e]
  exact ⟨s, rfl, by omega, by omega⟩
theorem Ready_same (f : Fleet) (d : ByteArray) : rules_Ready f d = ref16_Ready f d := rfl
theorem Ready_some (f : Fleet) (d : ByteArray) (h : f.Pods.length ≤ 300) : ∃ n, ref16_Ready f d = some n := by
  unfold ref16_Ready
  rw [if_pos (by omega)]
  obtain ⟨s, e⟩ := rnd_go (step := ref16_Ready_0_s f d) (k := f.Pods.length) (i := 0) (s := (0 : Int)) (fun j s _ hj => by
    unfold ref16_Ready_0_s
    cases decide ((el f.Pods j).Deploy = d) <;> cases (el f.Pods j).Ending <;> cases (el f.Pods j).Ready <;> simp)
  rw [e]
  exact ⟨s, rfl⟩
end Go.Proofs.Ytcchccdbkpidpaa.Ag
