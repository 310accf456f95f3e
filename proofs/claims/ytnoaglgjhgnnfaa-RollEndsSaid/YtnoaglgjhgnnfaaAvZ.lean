/- Rounds, in plain Lean: lists that grow, tests that all pass, and what is kept from round to round. -/
import Derived.Test.YtnoaglgjhgnnfaaAvY
set_option linter.unusedVariables false
set_option linter.unusedSimpArgs false
namespace Go.Proofs.Ytnoaglgjhgnnfaa.Av
open Go Go.RowKit

/-- All rounds pass. -/
theorem rnd_pass {σ ρ : Type} {step : Nat → σ → Res σ ρ} {s : σ} : ∀ (k i : Nat), (∀ j, i ≤ j → j < i + k → step j s = .go s) → rndN step k i s = .go s
  | 0, _, _ => rfl
  | k + 1, i, h => by
    rw [rndN, h i (Nat.le_refl _) (by omega)]
    exact rnd_pass k (i + 1) fun j h1 h2 => h j (by omega) (by omega)
theorem el_at {α : Type} [Inhabited α] {l : List α} {i : Nat} (h : i < l.length) : el l i = l[i] := by
  simp [el, List.getD_eq_getElem?_getD, List.getElem?_eq_getElem h]
theorem fitL {n b : Nat} (h : n * b ≤ 140737488355328) (hb : 0 < b) : n * b ≤ 140737488355328 ∧ n ≤ maxLen := by
  refine ⟨h, ?_⟩
  have := Nat.le_mul_of_pos_right n hb
  unfold maxLen
  omega
theorem i64_small {n : Int} (h : -9223372036854775808 ≤ n ∧ n ≤ 9223372036854775807) : IntKind.i64.wrap n = n := by
  rw [IntWalk.i64_in _ h]
/-- The first place where something is so. -/
theorem rnd_find {p : Nat → Bool} {step : Nat → Unit → Res Unit Int} : ∀ (k i : Nat), (∀ j, i ≤ j → j < i + k → step j () = bif p j then .out ((j : Nat) : Int) else .go ()) →
    (rndN step k i () = .go () ∧ ∀ j, i ≤ j → j < i + k → p j = false) ∨ ∃ j, i ≤ j ∧ j < i + k ∧ rndN step k i () = .out ((j : Nat) : Int) ∧ p j = true ∧ ∀ q, i ≤ q → q < j → p q = false
  | 0, i, _ => .inl ⟨rfl, fun j h1 h2 => by omega⟩
  | k + 1, i, h => by
    have h0 := h i (Nat.le_refl _) (by omega)
    cases hp : p i with
    | true =>
      rw [hp] at h0
      exact .inr ⟨i, Nat.le_refl _, by omega, by rw [rndN, h0]; rfl, hp, fun q h1 h2 => by omega⟩
    | false =>
      rw [hp] at h0
      rcases rnd_find (p := p) k (i + 1) (fun j h1 h2 => h j (by omega) (by omega)) with ⟨h1, h2⟩ | ⟨j, h1, h2, h3, h4, h5⟩
      · refine .inl ⟨by rw [rndN, h0]; exact h1, fun j a b => ?_⟩
        by_cases e : j = i
        · rw [e]; exact hp
        · exact h2 j (by omega) (by omega)
      · refine .inr ⟨j, by omega, by omega, by rw [rndN, h0]; exact h3, h4, fun q a b => ?_⟩
        by_cases e : q = i
        · rw [e]; exact hp
        · exact h5 q (by omega) (by omega)
end Go.Proofs.Ytnoaglgjhgnnfaa.Av
