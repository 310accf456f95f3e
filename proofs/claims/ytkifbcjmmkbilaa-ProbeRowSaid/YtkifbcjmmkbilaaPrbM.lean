/- Plain laws of a probe: rows of outcomes. -/
import Derived.Test.YtkifbcjmmkbilaaProbe
set_option linter.unusedVariables false
set_option linter.unusedSimpArgs false
namespace Go.Proofs.Ytkifbcjmmkbilaa.Prb
theorem may_pick (a b : Int) : mayB (1 + a % 8) (1 + b % 8) = true := by
  simp only [mayB, Bool.and_eq_true, decide_eq_true_eq]
  omega
theorem all_append (p : Pr) (l m : List Bool) (rise fall : Int) : allP p (l ++ m) rise fall = allP (allP p l rise fall) m rise fall := by simp [allP]
theorem goods (q : Pr) (rise fall : Int) (h1 : 1 ≤ rise) : ∀ j : Nat, 1 ≤ j → min (j : Int) rise ≤ (allP q (List.replicate j true) rise fall).1 ∧ (allP q (List.replicate j true) rise fall).1 ≤ rise ∧
    (allP q (List.replicate j true) rise fall).2.1 = 0 ∧ ((allP q (List.replicate j true) rise fall).1 = rise → (allP q (List.replicate j true) rise fall).2.2 = true) := by
  intro j
  induction j with
  | zero => intro h; omega
  | succ j ih =>
    intro _
    have e : allP q (List.replicate (j + 1) true) rise fall = nextP (allP q (List.replicate j true) rise fall) true rise fall := by
      rw [List.replicate_succ', all_append]; rfl
    rw [e]
    clear e
    obtain ⟨s, hs⟩ : ∃ s, allP q (List.replicate j true) rise fall = s := ⟨_, rfl⟩
    rw [hs] at ih ⊢
    clear hs
    simp only [nextP, if_true]
    by_cases hj : 1 ≤ j
    · obtain ⟨a, b, c, d⟩ := ih hj
      refine ⟨by omega, by omega, trivial, ?_⟩
      intro h
      simp [h]
    · obtain rfl : j = 0 := by omega
      refine ⟨by omega, by omega, trivial, ?_⟩
      intro h
      simp [h]
theorem bads (q : Pr) (rise fall : Int) (h1 : 1 ≤ fall) : ∀ j : Nat, 1 ≤ j → min (j : Int) fall ≤ (allP q (List.replicate j false) rise fall).2.1 ∧ (allP q (List.replicate j false) rise fall).2.1 ≤ fall ∧
    (allP q (List.replicate j false) rise fall).1 = 0 ∧ ((allP q (List.replicate j false) rise fall).2.1 = fall → (allP q (List.replicate j false) rise fall).2.2 = false) := by
  intro j
  induction j with
  | zero => intro h; omega
  | succ j ih =>
    intro _
    have e : allP q (List.replicate (j + 1) false) rise fall = nextP (allP q (List.replicate j false) rise fall) false rise fall := by
      rw [List.replicate_succ', all_append]; rfl
    rw [e]
    clear e
    obtain ⟨s, hs⟩ : ∃ s, allP q (List.replicate j false) rise fall = s := ⟨_, rfl⟩
    rw [hs] at ih ⊢
    clear hs
    simp only [nextP, Bool.false_eq_true, if_false]
    by_cases hj : 1 ≤ j
    · obtain ⟨a, b, c, d⟩ := ih hj
      refine ⟨by omega, by omega, trivial, ?_⟩
      intro h
      simp [h]
    · obtain rfl : j = 0 := by omega
      refine ⟨by omega, by omega, trivial, ?_⟩
      intro h
      simp [h]
/-- Behind so many good ones. -/
theorem goods_all (p : Pr) (l : List Bool) (rise : Nat) (fall : Int) (h1 : 1 ≤ rise) : (allP p (l ++ List.replicate rise true) rise fall).1 = rise ∧ (allP p (l ++ List.replicate rise true) rise fall).2.1 = 0 ∧ (allP p (l ++ List.replicate rise true) rise fall).2.2 = true := by
  rw [all_append]
  obtain ⟨a, b, c, d⟩ := goods (allP p l rise fall) rise fall (by omega) rise h1
  exact ⟨by omega, c, d (by omega)⟩
theorem bads_all (p : Pr) (l : List Bool) (rise : Int) (fall : Nat) (h1 : 1 ≤ fall) : (allP p (l ++ List.replicate fall false) rise fall).2.1 = fall ∧ (allP p (l ++ List.replicate fall false) rise fall).1 = 0 ∧ (allP p (l ++ List.replicate fall false) rise fall).2.2 = false := by
  rw [all_append]
  obtain ⟨a, b, c, d⟩ := bads (allP p l rise fall) rise fall (by omega) fall h1
  exact ⟨by omega, c, d (by omega)⟩
/-- The longest row of an outcome, counted. -/
def rowG (ok : Bool) (s : Int × Int) (b : Bool) : Int × Int := if b = ok then (s.1 + 1, max s.2 (s.1 + 1)) else (0, max s.2 0)
theorem row_mono (ok : Bool) (l : List Bool) : ∀ s : Int × Int, s.2 ≤ (l.foldl (rowG ok) s).2 := by
  induction l with
  | nil => intro s; exact Int.le_refl _
  | cons b l ih =>
    intro s
    rw [List.foldl_cons]
    refine Int.le_trans ?_ (ih _)
    unfold rowG
    split <;> simp <;> omega
theorem never_good (rise fall : Int) (h1 : 1 ≤ rise) (l : List Bool) : ∀ (n m : Int) (p : Pr), 0 ≤ n → p.1 = n → p.2.2 = false → (l.foldl (rowG true) (n, m)).2 < rise → (allP p l rise fall).2.2 = false := by
  induction l with
  | nil => intro n m p _ _ h _; exact h
  | cons b l ih =>
    intro n m p h0 hp hr hm
    show (allP (nextP p b rise fall) l rise fall).2.2 = false
    rw [List.foldl_cons] at hm
    have hb := row_mono true l (rowG true (n, m) b)
    cases b with
    | true =>
      have e : rowG true (n, m) true = (n + 1, max m (n + 1)) := rfl
      rw [e] at hm hb
      have hb' : max m (n + 1) ≤ (l.foldl (rowG true) (n + 1, max m (n + 1))).2 := hb
      refine ih (n + 1) _ _ (by omega) ?_ ?_ hm
      · simp only [nextP, if_true, hp]; omega
      · simp only [nextP, if_true, hp, hr]; simp; omega
    | false =>
      have e : rowG true (n, m) false = (0, max m 0) := rfl
      rw [e] at hm
      refine ih 0 _ _ (by omega) ?_ ?_ hm
      · simp [nextP]
      · simp [nextP, hr]
theorem never_bad (rise fall : Int) (h1 : 1 ≤ fall) (l : List Bool) : ∀ (n m : Int) (p : Pr), 0 ≤ n → p.2.1 = n → p.2.2 = true → (l.foldl (rowG false) (n, m)).2 < fall → (allP p l rise fall).2.2 = true := by
  induction l with
  | nil => intro n m p _ _ h _; exact h
  | cons b l ih =>
    intro n m p h0 hp hr hm
    show (allP (nextP p b rise fall) l rise fall).2.2 = true
    rw [List.foldl_cons] at hm
    have hb := row_mono false l (rowG false (n, m) b)
    cases b with
    | false =>
      have e : rowG false (n, m) false = (n + 1, max m (n + 1)) := rfl
      rw [e] at hm hb
      have hb' : max m (n + 1) ≤ (l.foldl (rowG false) (n + 1, max m (n + 1))).2 := hb
      refine ih (n + 1) _ _ (by omega) ?_ ?_ hm
      · simp only [nextP, Bool.false_eq_true, if_false, hp]; omega
      · simp only [nextP, Bool.false_eq_true, if_false, hp, hr]; simp; omega
    | true =>
      have e : rowG false (n, m) true = (0, max m 0) := rfl
      rw [e] at hm
      refine ih 0 _ _ (by omega) ?_ ?_ hm
      · simp [nextP]
      · simp [nextP, hr]
end Go.Proofs.Ytkifbcjmmkbilaa.Prb
