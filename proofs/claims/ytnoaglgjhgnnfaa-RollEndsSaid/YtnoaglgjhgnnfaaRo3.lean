/- RollOthers, in plain Lean. -/
import Derived.Test.YtnoaglgjhgnnfaaRo2
import Derived.Test.YtnoaglgjhgnnfaaAg4
set_option maxRecDepth 100000
set_option linter.unusedVariables false
set_option linter.unusedSimpArgs false
namespace Go.Proofs.Ytnoaglgjhgnnfaa.Ag
open Go Go.RowKit Go.Proofs.Ytnoaglgjhgnnfaa.Av Go.Proofs.Ytnoaglgjhgnnfaa.AvT Go.Proofs.Ytnoaglgjhgnnfaa.AvS

theorem el_mem' {l : List Object} {i : Nat} (h : i < l.length) : el l i ∈ l := by
  rw [el_at h]
  exact List.getElem_mem h
/-! Copies. -/
/-! The same as itself. -/
/-! What is asked for lies well. -/
/-! Of a deployment's own. -/
/-! Done. -/
def doneF (dn nm : ByteArray) (p : Object) (s : Int) : Res Int Bool :=
  optRes (bif (decide (p.Deploy = dn)) then (Option.bind (bif p.Ready then (bif p.Ending then (some true) else (some (!(decide (p.Set = nm))))) else (some true)) fun d119 => bif d119 then (some (Sum.inl () : Unit ⊕ Int)) else (some (.inr (IntKind.i64.wrap (s + (1 : Int)))))) else (some (.inr s))) (Sum.elim (fun d124 => .out false) (fun d128 => .go d128))
theorem doneF_live (dn nm : ByteArray) (p : Object) (s : Int) : doneF dn nm p s ≠ .die := by
  unfold doneF
  cases decide (p.Deploy = dn) <;> cases p.Ready <;> cases p.Ending <;> cases decide (p.Set = nm) <;> simp [optRes]
theorem done_live (dn nm : ByteArray) : ∀ (l : List Object) (s : Int), foldR (doneF dn nm) l s ≠ .die
  | [], s => by simp [foldR]
  | p :: l, s => by
    rw [foldR]
    have := doneF_live dn nm p s
    cases h : doneF dn nm p s with
    | go s' => exact done_live dn nm l s'
    | out r => simp
    | die => exact absurd h this
def odd2 (nm : ByteArray) (s : List Object) : Bool := match roll_Done_j2 nm s with
  | some b => b
  | none => false
theorem odd2_eq (nm : ByteArray) (s : List Object) (h : s.length ≤ 100000) : roll_Done_j2 nm s = some (odd2 nm s) ∧ (odd2 nm s = false → ∀ o ∈ s, o.Name = nm) := by
  have key : (roll_Done_j2 nm s = some false ∧ ∀ o ∈ s, o.Name = nm) ∨ roll_Done_j2 nm s = some true := by
    unfold roll_Done_j2
    rw [if_pos (by omega)]
    rcases rnd_find (p := fun j => !decide ((el s j).Name = nm)) (step := roll_Done_2_s s nm) s.length 0 (fun j _ _ => by
      unfold roll_Done_2_s
      cases decide ((el s j).Name = nm) <;> rfl) with ⟨e, h2⟩ | ⟨j, _, hj, e, h2, h3⟩
    · refine .inl ⟨by rw [e]; rfl, fun o ho => ?_⟩
      obtain ⟨j, hj, rfl⟩ := List.getElem_of_mem ho
      have := h2 j (Nat.zero_le _) (by omega)
      rw [el_at hj] at this
      simpa using this
    · refine .inr ?_
      rw [e]
      simp only [Res.opt]
      rw [decide_eq_true (by omega)]
  rcases key with ⟨e, hn⟩ | e
  · have : odd2 nm s = false := by unfold odd2; rw [e]
    rw [this]
    exact ⟨e, fun _ => hn⟩
  · have : odd2 nm s = true := by unfold odd2; rw [e]
    rw [this]
    exact ⟨e, fun h => by cases h⟩
def doneQ (pods : List Object) (d : Object) (s : List Object) : Bool :=
  if j0Q (nmQ d) s < 0 then false else if heldQ (el s (j0Q (nmQ d) s).toNat).Count ≠ heldQ d.Count then false else if odd2 (nmQ d) s = true then false else
  match foldR (doneF d.Name (nmQ d)) pods 0 with
  | .go n => decide (n = heldQ d.Count)
  | .out b => b
  | .die => false
theorem Done_eq (ff : Fleet) (d : Object) (sets : List Object) (hd : OkObject d) (hp : ff.Pods.length ≤ 100000) (hs : sets.length ≤ 1000) : roll_Done ff d sets = some (doneQ ff.Pods d (ownS d sets)) := by
  unfold roll_Done doneQ
  obtain ⟨hsn, htm⟩ := setName_eq hd
  rw [hsn]
  simp only [Option.bind_some]
  rw [if_pos (by omega), own_go (roll_Done_0_s sets d) sets d.Name (by omega) (fun i s => rfl)]
  simp only [Res.opt]
  have e1 : (List.filter (fun s => decide (s.Deploy = d.Name)) sets) = ownS d sets := rfl
  have e2 : (d.Name ++ (⟨#[45]⟩ : ByteArray) ++ txQ (tmQ d)) = nmQ d := rfl
  rw [e1, e2]
  have hl : (ownS d sets).length ≤ 1000 := Nat.le_trans (ownS_len d sets) hs
  generalize ownS d sets = s at hl
  obtain ⟨hj, hc⟩ := j0_spec (nmQ d) s (by omega)
  have hj' : roll_Done_j0 (nmQ d) s = some (j0Q (nmQ d) s) := hj
  rw [hj']
  simp only [Option.bind_some]
  unfold roll_Done_j1
  by_cases h0 : j0Q (nmQ d) s < 0
  · rw [decide_eq_true h0, if_pos h0]
    rfl
  · rw [decide_eq_false h0, if_neg h0, cond_false]
    have hb : 0 ≤ j0Q (nmQ d) s ∧ j0Q (nmQ d) s < (s.length : Int) := by
      rcases hc with ⟨e, _⟩ | ⟨j, hj, e, _⟩
      · omega
      · omega
    rw [if_pos hb]
    simp only [held_eq, Option.bind_some]
    by_cases h1 : heldQ (el s (j0Q (nmQ d) s).toNat).Count = heldQ d.Count
    · rw [decide_eq_true h1, if_neg (show ¬ (heldQ (el s (j0Q (nmQ d) s).toNat).Count ≠ heldQ d.Count) from fun q => q h1)]
      obtain ⟨ho, _⟩ := odd2_eq (nmQ d) s (by omega)
      rw [ho]
      simp only [Bool.not_true, cond_false, Option.bind_some]
      cases odd2 (nmQ d) s with
      | true => rfl
      | false =>
        rw [cond_false, if_neg (show ¬ (false = true) by decide), if_pos (show ff.Pods.length ≤ 9223372036854775807 by omega)]
        have e : roll_Done_3_s ff d (nmQ d) = fun k st => doneF d.Name (nmQ d) (el ff.Pods k) st := rfl
        rw [e, rnd_fold]
        have hlv := done_live d.Name (nmQ d) ff.Pods 0
        cases hf : foldR (doneF d.Name (nmQ d)) ff.Pods 0 with
        | go n => rfl
        | out b => rfl
        | die => exact absurd hf hlv
    · rw [decide_eq_false h1, if_pos (show heldQ (el s (j0Q (nmQ d) s).toNat).Count ≠ heldQ d.Count from h1)]
      rfl
theorem big_cases (ff : Fleet) (sets : List Object) : law26_big ff sets = some true ∨ (law26_big ff sets = some false ∧ ff.Pods.length ≤ 200 ∧ ff.Deploys.length ≤ 50 ∧ sets.length ≤ 100) := by
  unfold law26_big
  by_cases h1 : (200 : Int) < ((ff.Pods.length : Nat) : Int)
  · rw [decide_eq_true h1]; exact .inl rfl
  · rw [decide_eq_false h1, cond_false]
    by_cases h2 : (50 : Int) < ((ff.Deploys.length : Nat) : Int)
    · rw [decide_eq_true h2]; exact .inl rfl
    · rw [decide_eq_false h2, cond_false]
      by_cases h3 : (100 : Int) < ((sets.length : Nat) : Int)
      · rw [decide_eq_true h3]; exact .inl rfl
      · rw [decide_eq_false h3]; exact .inr ⟨rfl, by omega, by omega, by omega⟩
end Go.Proofs.Ytnoaglgjhgnnfaa.Ag
