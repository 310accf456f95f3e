/- Labels and what budgets guard, in plain Lean: the program's count is the document's. -/
import Derived.Test.YtcchccdbkpidpaaDoorAhBd
import Derived.Test.YtcchccdbkpidpaaDoorAg5
set_option maxRecDepth 100000
set_option linter.unusedVariables false
set_option linter.unusedSimpArgs false
namespace Go.Proofs.YtcchccdbkpidpaaDoor.Ag
open Go Go.RowKit Go.Proofs.YtcchccdbkpidpaaDoor.Av Go.Proofs.YtcchccdbkpidpaaDoor.AvT Go.Proofs.YtcchccdbkpidpaaDoor.AvS

theorem rnd_congr {σ ρ : Type} {s1 s2 : Nat → σ → Res σ ρ} : ∀ (k i : Nat) (s : σ), (∀ j s, i ≤ j → j < i + k → s1 j s = s2 j s) → rndN s1 k i s = rndN s2 k i s
  | 0, _, _, _ => rfl
  | k + 1, i, s, h => by
    rw [rndN, rndN, h i s (Nat.le_refl _) (by omega)]
    cases s2 i s with
    | go s' => exact rnd_congr k (i + 1) s' fun j s h1 h2 => h j s (by omega) (by omega)
    | out _ => rfl
    | die => rfl
theorem has_eq (x : Label) (l : List Label) (h : l.length ≤ 4398046511000) : ref02_has l x = some (Ak.hasL x l) := by
  unfold ref02_has
  rw [if_pos (by omega), Ak.rnd_hit (p := fun q => (decide (x.Key = (el l q).Key)) && ((decide (x.Value = (el l q).Value)) && true)) (v := true) l.length 0 (fun q _ _ => by
    unfold ref02_has_0_s
    simp only [eq_comm (a := x.Key), eq_comm (a := x.Value)])]
  rw [Ak.any_el l (fun y => (decide (x.Key = y.Key)) && ((decide (x.Value = y.Value)) && true))]
  show Res.opt (bif Ak.hasL x l then _ else _) _ _ = _
  cases Ak.hasL x l <;> rfl
theorem not_any {α : Type} (p : α → Bool) : ∀ l : List α, (l.any fun x => !(p x)) = !(l.all p)
  | [] => rfl
  | x :: l => by rw [List.any_cons, List.all_cons, not_any p l, Bool.not_and]
theorem Matches_eq (a b : List Label) (ha : a.length ≤ 4398046511000) (hb : b.length ≤ 4398046511000) : ref02_Matches a b = some (Ak.matchesQ a b) := by
  unfold ref02_Matches
  rw [if_pos (by omega), Ak.rnd_hit (p := fun q => !(Ak.hasL (el a q) b)) (v := ()) a.length 0 (fun q _ _ => by
    unfold ref02_Matches_0_s
    rw [has_eq _ _ hb]
    cases Ak.hasL (el a q) b <;> rfl)]
  rw [Ak.any_el a (fun x => !(Ak.hasL x b)), not_any]
  show _ = some (a.all fun x => Ak.hasL x b)
  cases a.all fun x => Ak.hasL x b <;> rfl
theorem Guarded_same (f : Fleet) (b : Object) (hp : ∀ o ∈ f.Pods, OkLab o) (hb : OkLab b) : rules_Guarded f b = ref16_Guarded f b := by
  unfold rules_Guarded ref16_Guarded
  rw [rnd_congr (s2 := ref16_Guarded_0_s f b) f.Pods.length 0 _ (fun j s _ hj => by
    have h1 := (hp _ (el_mem (l := f.Pods) (i := j) (by omega))).1
    unfold rules_Guarded_0_s rules_Guarded_j1 rules_Guarded_j0 ref16_Guarded_0_s
    rw [Matches_eq _ _ hb.2 h1, if_pos ⟨hb.2, h1⟩]
    cases (el f.Pods j).Ready <;> cases (el f.Pods j).Ending <;> cases Ak.matchesQ b.Select (el f.Pods j).Labels <;> rfl)]
theorem Guarded_some (f : Fleet) (b : Object) (hn : f.Pods.length ≤ 300) (hp : ∀ o ∈ f.Pods, OkLab o) (hb : OkLab b) : ∃ g, ref16_Guarded f b = some g ∧ 0 ≤ g ∧ g ≤ 300 := by
  unfold ref16_Guarded
  rw [if_pos (by omega)]
  obtain ⟨s, e, h⟩ := rnd_inv (step := ref16_Guarded_0_s f b) (I := fun j (s : Int) => 0 ≤ s ∧ s ≤ ((j : Nat) : Int)) f.Pods.length 0 0 (by constructor <;> omega) (fun j s _ hj hI => by
    have h1 := (hp _ (el_mem (l := f.Pods) (i := j) (by omega))).1
    obtain ⟨ha, hz⟩ := hI
    unfold ref16_Guarded_0_s
    rw [Matches_eq _ _ hb.2 h1]
    have hw : IntKind.i64.wrap (s + 1) = s + 1 := i64_small (by omega)
    cases (el f.Pods j).Ready <;> cases (el f.Pods j).Ending <;> cases Ak.matchesQ b.Select (el f.Pods j).Labels <;> first | exact ⟨_, rfl, by omega, by omega⟩ | exact ⟨_, congrArg Res.go hw, by omega, by omega⟩)
  rw [e]
  exact ⟨s, rfl, by omega, by omega⟩
theorem Ready_same (f : Fleet) (d : ByteArray) : rules_Ready f d = ref16_Ready f d := rfl
theorem Ready_some (f : Fleet) (d : ByteArray) (h : f.Pods.length ≤ 300) : ∃ n, ref16_Ready f d = some n := by
  unfold ref16_Ready
  rw [if_pos (by omega)]
  obtain ⟨s, e⟩ := rnd_go (step := ref16_Ready_0_s f d) (k := f.Pods.length) (i := 0) (s := (0 : Int)) (fun j s _ hj => by
    unfold ref16_Ready_0_s
    cases decide ((el f.Pods j).Deploy = d) <;> cases (el f.Pods j).Ending <;> cases (el f.Pods j).Ready <;> simp)
  rw [e]
  exact ⟨s, rfl⟩
end Go.Proofs.YtcchccdbkpidpaaDoor.Ag
