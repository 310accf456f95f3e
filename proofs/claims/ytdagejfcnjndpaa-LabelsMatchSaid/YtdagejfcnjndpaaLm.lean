/- LabelsMatch in plain Lean. -/
import Derived.Test.YtdagejfcnjndpaaAg3
import Derived.Test.YtdagejfcnjndpaaAvB
set_option maxRecDepth 100000
set_option linter.unusedVariables false
set_option linter.unusedSimpArgs false
namespace Go.Proofs.Ytdagejfcnjndpaa.Ag
open Go Go.RowKit Go.Proofs.Ytdagejfcnjndpaa.Av Go.Proofs.Ytdagejfcnjndpaa.AvT Go.Proofs.Ytdagejfcnjndpaa.AvS

def hasL (x : Label) (b : List Label) : Bool := b.any fun y => (decide (x.Key = y.Key)) && ((decide (x.Value = y.Value)) && true)
def comQ (a b : List Label) : List Label := a.filter fun x => hasL x b
theorem comQ_len (a b : List Label) : (comQ a b).length ≤ a.length := List.length_filter_le _ _
theorem rnd_hit {ρ : Type} {step : Nat → Unit → Res Unit ρ} {p : Nat → Bool} {v : ρ} : ∀ (k i : Nat), (∀ j, i ≤ j → j < i + k → step j () = bif p j then .out v else .go ()) → rndN step k i () = bif (List.range' i k).any p then .out v else .go ()
  | 0, i, _ => rfl
  | k + 1, i, h => by
    rw [rndN, h i (Nat.le_refl _) (by omega), List.range'_succ, List.any_cons]
    cases hp : p i with
    | true => rfl
    | false => simpa using rnd_hit k (i + 1) fun j h1 h2 => h j (by omega) (by omega)
theorem any_el {α : Type} [Inhabited α] (l : List α) (q : α → Bool) : ((List.range' 0 l.length).any fun j => q (el l j)) = l.any q := by
  have := List.any_map (f := fun j => el l j) (p := q) (l := List.range' 0 l.length)
  rw [map_el] at this
  rw [this]
  rfl
theorem take_step {α : Type} [Inhabited α] (a : List α) (j : Nat) (h : j < a.length) : a.take (j + 1) = a.take j ++ [el a j] := by
  rw [List.take_succ_eq_append_getElem h, el_at h]
theorem has_eq (x : Label) (l : List Label) (h : l.length ≤ 4398046511000) : ref02_has l x = some (hasL x l) := by
  unfold ref02_has
  rw [if_pos (by omega), rnd_hit (p := fun q => (decide (x.Key = (el l q).Key)) && ((decide (x.Value = (el l q).Value)) && true)) (v := true) l.length 0 (fun q _ _ => by
    unfold ref02_has_0_s
    simp only [eq_comm (a := x.Key), eq_comm (a := x.Value)])]
  rw [any_el l (fun y => (decide (x.Key = y.Key)) && ((decide (x.Value = y.Value)) && true))]
  show Res.opt (bif hasL x l then _ else _) _ _ = _
  cases hasL x l <;> rfl
theorem not_any {α : Type} (p : α → Bool) : ∀ l : List α, (l.any fun x => !(p x)) = !(l.all p)
  | [] => rfl
  | x :: l => by rw [List.any_cons, List.all_cons, not_any p l, Bool.not_and]
theorem Matches_eq (a b : List Label) (ha : a.length ≤ 4398046511000) (hb : b.length ≤ 4398046511000) : ref02_Matches a b = some (a.all fun x => hasL x b) := by
  unfold ref02_Matches
  rw [if_pos (by omega), rnd_hit (p := fun q => !(hasL (el a q) b)) (v := ()) a.length 0 (fun q _ _ => by
    unfold ref02_Matches_0_s
    rw [has_eq _ _ hb]
    cases hasL (el a q) b <;> rfl)]
  rw [any_el a (fun x => !(hasL x b)), not_any]
  cases a.all fun x => hasL x b <;> rfl
theorem common_eq (a b : List Label) (ha : a.length ≤ 4398046511000) (hb : b.length ≤ 4398046511000) : labels_Common a b = some (comQ a b) := by
  unfold labels_Common
  rw [if_pos (by omega)]
  obtain ⟨s', e, hs⟩ := rnd_inv (step := labels_Common_0_s b a) (I := fun j (s : List Label) => s = comQ (a.take j) b) a.length 0 [] rfl (fun j s _ hj hI => by
    subst hI
    have hlen : (comQ (a.take j) b).length ≤ 4398046511000 := Nat.le_trans (List.length_filter_le _ _) (by rw [List.length_take]; omega)
    unfold labels_Common_0_s
    rw [if_pos (by omega)]
    rw [rnd_hit (p := fun q => ((decide ((el a j).Key = (el b q).Key)) && ((decide ((el a j).Value = (el b q).Value)) && true))) (v := (comQ (a.take j) b ++ [el a j])) b.length 0 (fun q _ hq => by
      unfold labels_Common_1_s
      rw [if_pos ⟨by simp only [List.length_append, List.length_cons, List.length_nil]; omega, by simp only [List.length_append, List.length_cons, List.length_nil]; unfold maxLen; omega⟩])]
    rw [any_el b (fun y => (decide ((el a j).Key = y.Key)) && ((decide ((el a j).Value = y.Value)) && true))]
    show ∃ s', Res.res (bif hasL (el a j) b then _ else _) _ _ = _ ∧ _
    unfold comQ
    rw [take_step a j (by omega), List.filter_append]
    cases hh : hasL (el a j) b with
    | true => exact ⟨_, rfl, by simp [hh]⟩
    | false => exact ⟨_, rfl, by simp [hh]⟩)
  rw [e, hs, Nat.zero_add, List.take_length]
  rfl
theorem refCommon_eq (a b : List Label) (ha : a.length ≤ 4398046511000) (hb : b.length ≤ 4398046511000) : ref02_Common a b = some (comQ a b) := by
  unfold ref02_Common
  rw [if_pos (by omega)]
  obtain ⟨s', e, hs⟩ := rnd_inv (step := ref02_Common_0_s b a) (I := fun j (s : List Label) => s = comQ (a.take j) b) a.length 0 [] rfl (fun j s _ hj hI => by
    subst hI
    have hlen : (comQ (a.take j) b).length ≤ 4398046511000 := Nat.le_trans (List.length_filter_le _ _) (by rw [List.length_take]; omega)
    unfold ref02_Common_0_s
    rw [has_eq _ _ hb]
    simp only [optRes]
    rw [if_pos ⟨by simp only [List.length_append, List.length_cons, List.length_nil]; omega, by simp only [List.length_append, List.length_cons, List.length_nil]; unfold maxLen; omega⟩]
    unfold comQ
    rw [take_step a j (by omega), List.filter_append]
    cases hh : hasL (el a j) b with
    | true => exact ⟨_, rfl, by simp [hh]⟩
    | false => exact ⟨_, rfl, by simp [hh]⟩)
  rw [e, hs, Nat.zero_add, List.take_length]
  rfl
theorem com_all (a b : List Label) : decide ((((comQ a b).length : Nat) : Int) = ((a.length : Nat) : Int)) = a.all fun x => hasL x b := by
  rw [Bool.eq_iff_iff, decide_eq_true_iff, List.all_eq_true]
  have := List.length_filter_eq_length_iff (p := fun x => hasL x b) (l := a)
  unfold comQ
  constructor
  · intro h x hx; exact this.1 (by omega) x hx
  · intro h; have := this.2 h; omega
theorem matches_eq (a b : List Label) (ha : a.length ≤ 4398046511000) (hb : b.length ≤ 4398046511000) : labels_Matches a b = some (a.all fun x => hasL x b) := by
  have hl := comQ_len a b
  unfold labels_Matches
  rw [common_eq a b ha hb, Option.bind_some, if_pos (by omega)]
  obtain ⟨s', e, hs⟩ := rnd_inv (step := labels_Matches_0_s (comQ a b)) (I := fun j (s : Int) => s = ((j : Nat) : Int)) (comQ a b).length 0 0 rfl (fun j s _ hj hI => by
    subst hI
    unfold labels_Matches_0_s
    exact ⟨_, congrArg Res.go (i64_small (by omega)), by omega⟩)
  rw [e, hs]
  simp only [Res.opt, Nat.zero_add]
  rw [com_all]
theorem Get_some (l : List Label) (k : ByteArray) (h : l.length ≤ 4398046511000) : ∃ r, labels_Get l k = some r := by
  unfold labels_Get
  rw [if_pos (by omega)]
  rcases rnd_inv2 (step := labels_Get_0_s l k) (I := fun _ _ => True) (O := fun _ => True) l.length 0 () trivial (fun j s _ hj _ => by
    unfold labels_Get_0_s
    cases decide ((el l j).Key = k)
    · exact .inl ⟨(), rfl, trivial⟩
    · exact .inr ⟨_, rfl, trivial⟩) with ⟨s, e, _⟩ | ⟨x, e, _⟩
  · rw [e]; exact ⟨_, rfl⟩
  · rw [e]; exact ⟨_, rfl⟩
theorem Get_same (l : List Label) (k : ByteArray) : ref02_Get l k = labels_Get l k := rfl
theorem kept_eq (l : List Label) (h : l.length ≤ 4398046511000) : kit_KeptLabels marksLabel l l = some true := by
  have hl : (l ++ marksLabel).length = l.length + 16 := by rw [List.length_append, marksLabel_len]
  unfold kit_KeptLabels
  rw [i64_small (by omega), hl]
  simp only [decide_true, cond_true]
  rw [if_pos (by omega), List.take_of_length_le (by rw [hl]; omega), kit_KeptFullLabels_eq l h]
  rfl
theorem same_eq (l : List Label) (h : l.length ≤ 4398046511000) : ref0_SameLabels l l = some true := by
  unfold ref0_SameLabels
  simp only [decide_true, cond_true]
  rw [if_pos (by omega), rnd_pass l.length 0 (fun j _ hj => by
    unfold ref0_SameLabels_0_s
    rw [if_pos (by omega)]
    simp)]
  rfl
theorem pick_eq (m n : Int) (h : 1 ≤ n ∧ n ≤ 9223372036854775807) : ∃ r, kit_Pick m n = some r ∧ 0 ≤ r := by
  unfold kit_Pick
  rw [decide_eq_false (by omega), cond_false, if_pos (by omega)]
  have h1 : Int.tmod m n < n := Int.tmod_lt_of_pos m (by omega)
  have h2 : -n < Int.tmod m n := Int.lt_tmod_of_pos m (by omega)
  by_cases hx : Int.tmod m n < 0
  · rw [decide_eq_true hx, cond_true]
    exact ⟨_, rfl, by rw [i64_small (by omega)]; omega⟩
  · rw [decide_eq_false hx, cond_false]
    exact ⟨_, rfl, by omega⟩
theorem fit1 {l : List Label} {s : List Label} {x : Label} (h : s.length + 1 ≤ l.length) (hl : l.length ≤ 4398046511000) : (s ++ ([x] : List Label)).length * 32 ≤ 140737488355328 ∧ (s ++ ([x] : List Label)).length ≤ maxLen := by
  simp only [List.length_append, List.length_cons, List.length_nil]
  unfold maxLen
  omega
theorem got2 (l : List Label) (hl : l.length ≤ 4398046511000) : rndN (law02_LabelsMatch_2_s l) l.length 0 [] = .go l := by
  rw [rnd_app (fun j => el l j) l.length 0 [] (fun j s _ hj hs => by
    unfold law02_LabelsMatch_2_s
    rw [if_pos (fit1 (l := l) (by simp at hs; omega) hl)]), map_el, List.nil_append]
theorem got3 (l : List Label) (hl : l.length ≤ 4398046511000) : rndN (law02_LabelsMatch_3_s l) l.length 0 [] = .go l := got2 l hl
theorem got4 (l : List Label) (r : Int) (hr : 0 ≤ r) (hl : l.length ≤ 4398046511000) : law02_LabelsMatch_j0 l r = some (l.take (min r ((l.length : Nat) : Int)).toNat) := by
  unfold law02_LabelsMatch_j0
  rcases rnd_inv2 (step := law02_LabelsMatch_4_s r l) (I := fun j s => s = l.take j ∧ ((j : Nat) : Int) ≤ r) (O := fun s => s = l.take (min r ((l.length : Nat) : Int)).toNat) l.length 0 [] ⟨rfl, hr⟩ (fun j s _ hj hI => by
    obtain ⟨rfl, hjr⟩ := hI
    have hlen : (l.take j).length = j := by rw [List.length_take]; omega
    unfold law02_LabelsMatch_4_s
    by_cases hx : r ≤ (((l.take j).length : Nat) : Int)
    · rw [decide_eq_true hx, cond_true]
      rw [hlen] at hx
      exact .inr ⟨_, rfl, by rw [show (min r ((l.length : Nat) : Int)).toNat = j by omega]⟩
    · rw [decide_eq_false hx, cond_false, if_pos (fit1 (l := l) (by rw [hlen]; omega) hl)]
      rw [hlen] at hx
      exact .inl ⟨_, rfl, (take_step l j (by omega)).symm, by omega⟩) with ⟨s, e, hs, hr2⟩ | ⟨x, e, hx⟩
  · rw [e, hs]
    simp only [Res.opt]
    rw [show (min r ((l.length : Nat) : Int)).toNat = 0 + l.length by omega]
  · rw [e, hx]
    rfl
theorem pure_LabelsMatch (a b : List Label) (most : Int) (O0 : a.length * 32 ≤ 140737488351232 ∧ a.length ≤ 9223372036854775807 ∧ ∀ x ∈ a, OkLabel x) (O1 : b.length * 32 ≤ 140737488351232 ∧ b.length ≤ 9223372036854775807 ∧ ∀ x ∈ b, OkLabel x) (O2 : (Lit.int .i64 most).wf = true) : law02_LabelsMatch a b most = some true := by
  have ha : a.length ≤ 4398046511000 := by have := O0.1; omega
  have hb : b.length ≤ 4398046511000 := by have := O1.1; omega
  have hc : (comQ a b).length ≤ 4398046511000 := Nat.le_trans (comQ_len a b) ha
  unfold law02_LabelsMatch
  rw [if_pos ha, if_pos hb, common_eq a b ha hb, Option.bind_some, matches_eq a b ha hb, Option.bind_some, Matches_eq a b ha hb, Option.bind_some, beq_self_eq_true, cond_true, kept_eq a ha, Option.bind_some, cond_true, kept_eq b hb, Option.bind_some, cond_true, if_pos (by omega)]
  rw [rnd_pass b.length 0 (fun j _ hj => by
    obtain ⟨r, e⟩ := Get_some a (el b j).Key ha
    unfold law02_LabelsMatch_0_s
    rw [Get_same, e]
    simp [optRes])]
  simp only [Res.opt]
  rw [refCommon_eq a b ha hb, Option.bind_some, if_pos (by omega)]
  obtain ⟨s1, e1, _⟩ := rnd_inv (step := law02_LabelsMatch_1_s a) (I := fun _ s => a.length ≤ s.length) a.length 0 (a ++ marksLabel) (by rw [List.length_append]; omega) (fun j s _ hj hI => by
    unfold law02_LabelsMatch_1_s
    rw [if_pos hI]
    exact ⟨_, rfl, by rw [List.length_set]; exact hI⟩)
  rw [e1]
  simp only
  obtain ⟨r, e2, hr⟩ := pick_eq most (((comQ a b).length : Nat) + 2 : Int) (by omega)
  rw [i64_small (by omega), e2, Option.bind_some, if_pos hc, got2 _ hc]
  simp only
  rw [same_eq _ hc, Option.bind_some, cond_true, got3 _ hc]
  simp only
  rw [same_eq _ hc, Option.bind_some, cond_true, got4 _ r hr hc, Option.bind_some, if_pos (by omega), same_eq _ (by rw [List.length_take]; omega)]
  rfl
end Go.Proofs.Ytdagejfcnjndpaa.Ag
