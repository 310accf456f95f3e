/- Rounds, in plain Lean: lists that grow, tests that all pass, and what is kept from round to round. -/
import Derived.Test.YtkifbcjmmkbilaaAvY
set_option linter.unusedVariables false
set_option linter.unusedSimpArgs false
namespace Go.Proofs.Ytkifbcjmmkbilaa.Av
open Go Go.RowKit

theorem rnd_app {α ρ : Type} (f : Nat → α) {step : Nat → List α → Res (List α) ρ} : ∀ (k i : Nat) (s : List α), (∀ j s', i ≤ j → j < i + k → s'.length = s.length + (j - i) → step j s' = .go (s' ++ [f j])) → rndN step k i s = .go (s ++ (List.range' i k).map f)
  | 0, i, s, _ => by simp [rndN]
  | k + 1, i, s, h => by
    rw [rndN, h i s (Nat.le_refl _) (by omega) (by simp)]
    simp only
    rw [rnd_app f k (i + 1) (s ++ [f i]) (fun j s' h1 h2 h3 => h j s' (by omega) (by omega) (by rw [h3, List.length_append]; simp; omega))]
    simp [List.range'_succ]
theorem map_el {α : Type} [Inhabited α] (l : List α) : (List.range' 0 l.length).map (fun j => el l j) = l := by
  apply List.ext_getElem?
  intro i
  rw [List.getElem?_map]
  by_cases h : i < l.length
  · rw [List.getElem?_range' (by simpa using h), List.getElem?_eq_getElem h]
    simp [el, List.getD_eq_getElem?_getD, List.getElem?_eq_getElem h]
  · rw [List.getElem?_eq_none (by simp; omega), List.getElem?_eq_none (by omega)]
    rfl
theorem map_el' {α β : Type} [Inhabited α] (f : α → β) (l : List α) : (List.range' 0 l.length).map (fun j => f (el l j)) = l.map f := by
  have := congrArg (List.map f) (map_el l)
  rw [List.map_map] at this
  exact this
/-- All rounds pass. -/
theorem rnd_pass {σ ρ : Type} {step : Nat → σ → Res σ ρ} {s : σ} : ∀ (k i : Nat), (∀ j, i ≤ j → j < i + k → step j s = .go s) → rndN step k i s = .go s
  | 0, _, _ => rfl
  | k + 1, i, h => by
    rw [rndN, h i (Nat.le_refl _) (by omega)]
    exact rnd_pass k (i + 1) fun j h1 h2 => h j (by omega) (by omega)
/-- What is kept from round to round. -/
theorem rnd_inv {σ ρ : Type} {step : Nat → σ → Res σ ρ} {I : Nat → σ → Prop} : ∀ (k i : Nat) (s : σ), I i s → (∀ j s, i ≤ j → j < i + k → I j s → ∃ s', step j s = .go s' ∧ I (j + 1) s') → ∃ s', rndN step k i s = .go s' ∧ I (i + k) s'
  | 0, i, s, h, _ => ⟨s, rfl, h⟩
  | k + 1, i, s, h, hs => by
    obtain ⟨s1, e1, h1⟩ := hs i s (Nat.le_refl _) (by omega) h
    obtain ⟨s2, e2, h2⟩ := rnd_inv k (i + 1) s1 h1 fun j s a b => hs j s (by omega) (by omega)
    exact ⟨s2, by rw [rndN, e1]; exact e2, by rw [show i + (k + 1) = i + 1 + k by omega]; exact h2⟩
/-- The same, where a round may leave. -/
theorem rnd_inv2 {σ ρ : Type} {step : Nat → σ → Res σ ρ} {I : Nat → σ → Prop} {O : ρ → Prop} : ∀ (k i : Nat) (s : σ), I i s → (∀ j s, i ≤ j → j < i + k → I j s → (∃ s', step j s = .go s' ∧ I (j + 1) s') ∨ ∃ x, step j s = .out x ∧ O x) →
    (∃ s', rndN step k i s = .go s' ∧ I (i + k) s') ∨ ∃ x, rndN step k i s = .out x ∧ O x
  | 0, i, s, h, _ => .inl ⟨s, rfl, h⟩
  | k + 1, i, s, h, hs => by
    rcases hs i s (Nat.le_refl _) (by omega) h with ⟨s1, e1, h1⟩ | ⟨x, e1, h1⟩
    · rcases rnd_inv2 k (i + 1) s1 h1 (fun j s a b => hs j s (by omega) (by omega)) with ⟨s2, e2, h2⟩ | ⟨x, e2, h2⟩
      · exact .inl ⟨s2, by rw [rndN, e1]; exact e2, by rw [show i + (k + 1) = i + 1 + k by omega]; exact h2⟩
      · exact .inr ⟨x, by rw [rndN, e1]; exact e2, h2⟩
    · exact .inr ⟨x, by rw [rndN, e1], h1⟩
/-- Rounds that never fail and are never left. -/
theorem rnd_go {σ : Type} {step : Nat → σ → Res σ Empty} {k i : Nat} {s : σ} (h : ∀ j s, i ≤ j → j < i + k → step j s ≠ .die) : ∃ s', rndN step k i s = .go s' := by
  obtain ⟨s', e, _⟩ := rnd_inv (I := fun _ _ => True) k i s trivial fun j s a b _ => by
    cases hq : step j s with
    | go s' => exact ⟨s', hq, trivial⟩
    | out x => exact x.elim
    | die => exact absurd hq (h j s a b)
  exact ⟨s', e⟩
theorem el_at {α : Type} [Inhabited α] {l : List α} {i : Nat} (h : i < l.length) : el l i = l[i] := by
  simp [el, List.getD_eq_getElem?_getD, List.getElem?_eq_getElem h]
theorem el_app {α : Type} [Inhabited α] {l m : List α} {i : Nat} (h : l.length ≤ i) : el (l ++ m) i = el m (i - l.length) := by
  simp [el, List.getD_eq_getElem?_getD, List.getElem?_append_right h]
theorem el_mapR {α : Type} [Inhabited α] {f : Nat → α} {n i : Nat} (h : i < n) : el ((List.range n).map f) i = f i := by
  simp [el, List.getD_eq_getElem?_getD, List.getElem?_range h]
theorem fitL {n b : Nat} (h : n * b ≤ 140737488355328) (hb : 0 < b) : n * b ≤ 140737488355328 ∧ n ≤ maxLen := by
  refine ⟨h, ?_⟩
  have := Nat.le_mul_of_pos_right n hb
  unfold maxLen
  omega
theorem i64_small {n : Int} (h : -9223372036854775808 ≤ n ∧ n ≤ 9223372036854775807) : IntKind.i64.wrap n = n := by
  rw [IntWalk.i64_in _ h]
/-- The first place where something is so. -/
theorem rnd_find {p : Nat → Bool} {step : Nat → Unit → Res Unit Int} : ∀ (k i : Nat), (∀ j, i ≤ j → j < i + k → step j () = bif p j then .out ((j : Nat) : Int) else .go ()) →
    (rndN step k i () = .go () ∧ ∀ j, i ≤ j → j < i + k → p j = false) ∨ ∃ j, i ≤ j ∧ j < i + k ∧ rndN step k i () = .out ((j : Nat) : Int) ∧ p j = true ∧ ∀ q, i ≤ q → q < j → p q = false
  | 0, i, _ => .inl ⟨rfl, fun j h1 h2 => by omega⟩
  | k + 1, i, h => by
    have h0 := h i (Nat.le_refl _) (by omega)
    cases hp : p i with
    | true =>
      rw [hp] at h0
      exact .inr ⟨i, Nat.le_refl _, by omega, by rw [rndN, h0]; rfl, hp, fun q h1 h2 => by omega⟩
    | false =>
      rw [hp] at h0
      rcases rnd_find (p := p) k (i + 1) (fun j h1 h2 => h j (by omega) (by omega)) with ⟨h1, h2⟩ | ⟨j, h1, h2, h3, h4, h5⟩
      · refine .inl ⟨by rw [rndN, h0]; exact h1, fun j a b => ?_⟩
        by_cases e : j = i
        · rw [e]; exact hp
        · exact h2 j (by omega) (by omega)
      · refine .inr ⟨j, by omega, by omega, by rw [rndN, h0]; exact h3, h4, fun q a b => ?_⟩
        by_cases e : q = i
        · rw [e]; exact hp
        · exact h5 q (by omega) (by omega)
end Go.Proofs.Ytkifbcjmmkbilaa.Av
