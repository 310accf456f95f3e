/- RollSurge, in plain Lean. -/
import Derived.Test.YtnoaglgjhgnnfaaRo3
set_option maxRecDepth 100000
set_option linter.unusedVariables false
set_option linter.unusedSimpArgs false
namespace Go.Proofs.Ytnoaglgjhgnnfaa.Ag
open Go Go.RowKit Go.Proofs.Ytnoaglgjhgnnfaa.Av Go.Proofs.Ytnoaglgjhgnnfaa.AvT Go.Proofs.Ytnoaglgjhgnnfaa.AvS

theorem rnd_or {ρ : Type} {step : Nat → Unit → Res Unit ρ} {Good : Nat → Prop} {r : ρ} : ∀ (k i : Nat), (∀ j, i ≤ j → j < i + k → (step j () = .go () ∧ Good j) ∨ step j () = .out r) →
    (rndN step k i () = .go () ∧ ∀ j, i ≤ j → j < i + k → Good j) ∨ rndN step k i () = .out r
  | 0, i, h => .inl ⟨rfl, fun j h1 h2 => by omega⟩
  | k + 1, i, h => by
    rw [rndN]
    rcases h i (Nat.le_refl _) (by omega) with ⟨e, hg⟩ | e
    · rw [e]
      rcases rnd_or k (i + 1) (fun j h1 h2 => h j (by omega) (by omega)) with ⟨e2, hg2⟩ | e2
      · refine .inl ⟨e2, fun j h1 h2 => ?_⟩
        rcases Nat.eq_or_lt_of_le h1 with rfl | h3
        · exact hg
        · exact hg2 j h3 (by omega)
      · exact .inr e2
    · rw [e]
      exact .inr rfl
/-- Counts from 0 to 1000. -/
def lowC (o : Object) : Prop := 0 ≤ o.Count ∧ o.Count ≤ 1000
def lowD (d : Object) : Prop := (0 ≤ d.Count ∧ d.Count ≤ 1000) ∧ (0 ≤ d.Surge ∧ d.Surge ≤ 1000) ∧ (0 ≤ d.Slack ∧ d.Slack ≤ 1000)
theorem modest_cases (d : Object) (sets : List Object) (hs : sets.length ≤ 1000) : law26_modest d sets = some false ∨ (law26_modest d sets = some true ∧ lowD d ∧ (∀ i, i < sets.length → lowC (el sets i)) ∧ ∀ i k, i < sets.length → k < i → (el sets k).Name ≠ (el sets i).Name) := by
  have h0 : law26_modest_j0 d = some true ∨ (law26_modest_j0 d = some false ∧ lowD d) := by
    unfold law26_modest_j0
    by_cases c1 : d.Count < 0
    · rw [decide_eq_true c1]; exact .inl rfl
    · by_cases c2 : (1000 : Int) < d.Count
      · rw [decide_eq_false c1, decide_eq_true c2]; exact .inl rfl
      · by_cases c3 : d.Surge < 0
        · rw [decide_eq_false c1, decide_eq_false c2, decide_eq_true c3]; exact .inl rfl
        · by_cases c4 : (1000 : Int) < d.Surge
          · rw [decide_eq_false c1, decide_eq_false c2, decide_eq_false c3, decide_eq_true c4]; exact .inl rfl
          · by_cases c5 : d.Slack < 0
            · rw [decide_eq_false c1, decide_eq_false c2, decide_eq_false c3, decide_eq_false c4, decide_eq_true c5]; exact .inl rfl
            · by_cases c6 : (1000 : Int) < d.Slack
              · rw [decide_eq_false c1, decide_eq_false c2, decide_eq_false c3, decide_eq_false c4, decide_eq_false c5, decide_eq_true c6]; exact .inl rfl
              · rw [decide_eq_false c1, decide_eq_false c2, decide_eq_false c3, decide_eq_false c4, decide_eq_false c5, decide_eq_false c6]
                exact .inr ⟨rfl, ⟨by omega, by omega⟩, ⟨by omega, by omega⟩, by omega, by omega⟩
  unfold law26_modest
  rcases h0 with e | ⟨e, hd⟩
  · rw [e]; exact .inl rfl
  rw [e]
  simp only [Option.bind_some, cond_false]
  rw [if_pos (by omega)]
  rcases rnd_or (step := law26_modest_0_s sets) (Good := fun i => lowC (el sets i) ∧ ∀ k, k < i → (el sets k).Name ≠ (el sets i).Name) (r := false) sets.length 0 (fun j _ hj => by
    unfold law26_modest_0_s law26_modest_j1
    by_cases c1 : (el sets j).Count < 0
    · rw [decide_eq_true c1]; exact .inr rfl
    rw [decide_eq_false c1, cond_false]
    by_cases c2 : (1000 : Int) < (el sets j).Count
    · rw [decide_eq_true c2]; exact .inr rfl
    rw [decide_eq_false c2]
    simp only [optRes, cond_false]
    rw [if_pos (by omega)]
    rcases rnd_or (step := law26_modest_1_s sets j) (Good := fun k => (el sets k).Name ≠ (el sets j).Name) (r := false) j 0 (fun k _ hk => by
      unfold law26_modest_1_s
      rw [if_pos (by omega)]
      by_cases c3 : (el sets k).Name = (el sets j).Name
      · rw [decide_eq_true c3]; exact .inr rfl
      · rw [decide_eq_false c3]; exact .inl ⟨rfl, c3⟩) with ⟨e1, hg⟩ | e1
    · rw [e1]
      exact .inl ⟨rfl, ⟨by omega, by omega⟩, fun k hk => hg k (Nat.zero_le _) (by omega)⟩
    · rw [e1]
      exact .inr rfl) with ⟨e1, hg⟩ | e1
  · rw [e1]
    exact .inr ⟨rfl, hd, fun i hi => (hg i (Nat.zero_le _) (by omega)).1, fun i k hi hk => (hg i (Nat.zero_le _) (by omega)).2 k hk⟩
  · rw [e1]
    exact .inl rfl
theorem pairwise_of (sets : List Object) (h : ∀ i k, i < sets.length → k < i → (el sets k).Name ≠ (el sets i).Name) : sets.Pairwise fun a b => a.Name ≠ b.Name := by
  rw [List.pairwise_iff_getElem]
  intro i j hi hj hij
  have := h j i hj hij
  rwa [el_at hi, el_at hj] at this
/-! What `after` makes of the sets. -/
/-! Counts. -/
/-- Side by side. -/
inductive Two (R : Object → Object → Prop) : List Object → List Object → Prop
  | nil : Two R [] []
  | cons {x y l m} : R x y → Two R l m → Two R (x :: l) (y :: m)
theorem Two.refl {R : Object → Object → Prop} : ∀ (l : List Object), (∀ x ∈ l, R x x) → Two R l l
  | [], _ => .nil
  | x :: l, h => .cons (h x List.mem_cons_self) (Two.refl l fun y hy => h y (List.mem_cons_of_mem _ hy))
theorem Two.map {R : Object → Object → Prop} {g : Object → Object} {l m : List Object} (h : Two R l m) : (∀ x ∈ l, ∀ y, R x y → R x (g y)) → Two R l (m.map g) := by
  induction h with
  | nil => exact fun _ => .nil
  | cons hxy _ ih => exact fun hg => .cons (hg _ List.mem_cons_self _ hxy) (ih fun x hx => hg x (List.mem_cons_of_mem _ hx))
theorem Two.len {R : Object → Object → Prop} {l m : List Object} (h : Two R l m) : m.length = l.length := by
  induction h with
  | nil => rfl
  | cons _ _ ih => simp [ih]
theorem Two.at {R : Object → Object → Prop} {l m : List Object} (h : Two R l m) : ∀ (i : Nat), i < l.length → R (el l i) (el m i) := by
  induction h with
  | nil => intro i hi; simp at hi
  | cons hxy _ ih =>
    intro i hi
    cases i with
    | zero => exact hxy
    | succ i => exact ih i (by simpa using hi)
/-! What an elder set is shrunk to is no more than it had. -/
end Go.Proofs.Ytnoaglgjhgnnfaa.Ag
