/- ProbeTurned in plain Lean, of lists that are not too long. -/
import Derived.Test.YtkifbcjmmkbilaaPt
set_option maxRecDepth 100000
set_option linter.unusedVariables false
set_option linter.unusedSimpArgs false
namespace Go.Proofs.Ytkifbcjmmkbilaa.Ag
open Go Go.RowKit Go.Proofs.Ytkifbcjmmkbilaa.Av Go.Proofs.Ytkifbcjmmkbilaa.AvT Go.Proofs.Ytkifbcjmmkbilaa.AvS

theorem kit_KeptBools_eq (l : List Bool) (h : l.length ≤ 140737488351232) : kit_KeptBools marksBool l l = some true := by
  have hl : (l ++ marksBool).length = l.length + 16 := by rw [List.length_append, marksBool_len]
  unfold kit_KeptBools
  rw [i64_small (by omega), hl]
  simp only [decide_true, cond_true]
  rw [if_pos (by omega), List.take_of_length_le (by rw [hl]; omega), kit_KeptFullBools_eq l h]
  rfl
theorem May_eq (rise fall : Int) : ref22_May rise fall = some (Prb.mayB rise fall) := by
  unfold ref22_May Prb.mayB
  by_cases h1 : (1 : Int) ≤ rise
  · by_cases h2 : rise ≤ 8
    · by_cases h3 : (1 : Int) ≤ fall
      · rw [decide_eq_true h1, decide_eq_true h2, decide_eq_true h3, decide_eq_true (show (1 : Int) ≤ min rise fall by omega)]
        simp only [cond_true, Bool.true_and]
        congr 1
        exact decide_eq_decide.2 (by omega)
      · rw [decide_eq_true h1, decide_eq_true h2, decide_eq_false h3, decide_eq_false (show ¬ (1 : Int) ≤ min rise fall by omega)]
        rfl
    · rw [decide_eq_true h1, decide_eq_false h2, decide_eq_false (show ¬ max rise fall ≤ 8 by omega), Bool.and_false]
      rfl
  · rw [decide_eq_false h1, decide_eq_false (show ¬ (1 : Int) ≤ min rise fall by omega)]
    rfl
theorem may_in {rise fall : Int} (h : Prb.mayB rise fall = true) : 1 ≤ rise ∧ rise ≤ 8 ∧ 1 ≤ fall ∧ fall ≤ 8 := by
  unfold Prb.mayB at h
  rw [Bool.and_eq_true, decide_eq_true_iff, decide_eq_true_iff] at h
  omega
def prb (p : Prb.Pr) : Probe := ⟨p.1, p.2.1, p.2.2⟩
theorem rnext_eq (p : Prb.Pr) (ok : Bool) (rise fall : Int) (hm : Prb.mayB rise fall = true) : ref22_Next (prb p) ok rise fall = some (prb (Prb.nextP p ok rise fall), 0) := by
  have := may_in hm
  unfold ref22_Next Prb.nextP prb ref22_more
  rw [May_eq, hm, i64_small (n := rise - 1) (by omega), i64_small (n := fall - 1) (by omega), i64_small (n := min (max p.1 0) (rise - 1) + 1) (by omega), i64_small (n := min (max p.2.1 0) (fall - 1) + 1) (by omega)]
  have hlt : decide (min (max p.2.1 0) (fall - 1) + 1 < fall) = !decide (min (max p.2.1 0) (fall - 1) + 1 = fall) := by
    rw [← decide_not]
    exact decide_eq_decide.2 (by omega)
  cases ok <;> cases hr : p.2.2 <;> simp [hlt]
abbrev TL := List (Nat × Bool)
def fsI (T : TL) : List Int := T.map fun x => ((x.1 : Nat) : Int)
def fsB (T : TL) : List Bool := T.map fun x => x.2
theorem tnL_len (p : Prb.Pr) (l : List Bool) (a b : Int) (k : Nat) : (Tn.tnL p l a b k).length ≤ k := by
  unfold Tn.tnL
  rw [List.length_map]
  exact Nat.le_trans (List.length_filter_le _ _) (by simp)
theorem turns_len (p : Probe) (l : List Bool) (a b : Int) : (Tn.turnsL a b p l).length ≤ l.length := by
  unfold Tn.turnsL
  split
  · exact tnL_len _ _ _ _ _
  · exact Nat.zero_le _
theorem fitS {α : Type} {l : List α} {x : α} {b : Nat} (h : l.length ≤ 1048576) (hb : b ≤ 8) : (l ++ ([x] : List α)).length * b ≤ 140737488355328 ∧ (l ++ ([x] : List α)).length ≤ maxLen := by
  have e : (l ++ ([x] : List α)).length ≤ 1048577 := by simp only [List.length_append, List.length_cons, List.length_nil]; omega
  refine ⟨Nat.le_trans (Nat.mul_le_mul e hb) (by decide), ?_⟩
  unfold maxLen
  omega
theorem refTurns_eq (p : Probe) (l : List Bool) (a b : Int) (hl : l.length ≤ 1048576) : ref22_Turns p l a b = some (fsI (Tn.turnsL a b p l), fsB (Tn.turnsL a b p l)) := by
  unfold ref22_Turns
  rw [if_pos (by omega)]
  by_cases hm : Prb.mayB a b = true
  · have eT : Tn.turnsL a b p l = Tn.tnL (p.Good, p.Bad, p.Ready) l a b l.length := by unfold Tn.turnsL; rw [if_pos hm]
    rw [eT]
    obtain ⟨s, e, hs⟩ := rnd_inv (step := ref22_Turns_0_s a b l) (I := fun i s => s = ((Prb.st (p.Good, p.Bad, p.Ready) l a b i).1, (Prb.st (p.Good, p.Bad, p.Ready) l a b i).2.1, (Prb.st (p.Good, p.Bad, p.Ready) l a b i).2.2, fsI (Tn.tnL (p.Good, p.Bad, p.Ready) l a b i), fsB (Tn.tnL (p.Good, p.Bad, p.Ready) l a b i))) l.length 0 (p.Good, p.Bad, p.Ready, [], []) rfl (fun j s _ hj hs => by
      have hjl : j < l.length := by omega
      have hlen := tnL_len (p.Good, p.Bad, p.Ready) l a b j
      have hn := Prb.st_succ (p.Good, p.Bad, p.Ready) l a b j hjl
      have he : YtkifbcjmmkbilaaW.PrintWords.rdOf false l (j : Int) = el l j := by simp [YtkifbcjmmkbilaaW.PrintWords.rdOf, el]
      rw [he] at hn
      have hr := rnext_eq (Prb.st (p.Good, p.Bad, p.Ready) l a b j) (el l j) a b hm
      rw [← hn] at hr
      unfold prb at hr
      subst hs
      unfold ref22_Turns_0_s
      simp only
      rw [May_eq, hm]
      simp only [optRes, cond_true]
      rw [hr]
      simp only [optRes]
      by_cases ht : Tn.tnB (p.Good, p.Bad, p.Ready) l a b j = true
      · have hne : ((Prb.st (p.Good, p.Bad, p.Ready) l a b (j + 1)).2.2 == (Prb.st (p.Good, p.Bad, p.Ready) l a b j).2.2) = false := (turn_is _ l a b j hjl ht).2
        rw [hne, cond_false, if_pos (fitS (by unfold fsI; rw [List.length_map]; omega) (by omega)), if_pos (fitS (by unfold fsB; rw [List.length_map]; omega) (by omega))]
        refine ⟨_, rfl, ?_⟩
        rw [Tn.tnL_succ, if_pos ht]
        unfold fsI fsB
        simp
      · have ht0 : Tn.tnB (p.Good, p.Bad, p.Ready) l a b j = false := by simpa using ht
        have heq : ((Prb.st (p.Good, p.Bad, p.Ready) l a b (j + 1)).2.2 == (Prb.st (p.Good, p.Bad, p.Ready) l a b j).2.2) = true := by
          unfold Tn.tnB at ht0
          simpa using ht0
        rw [heq, cond_true]
        refine ⟨_, rfl, ?_⟩
        rw [Tn.tnL_skip _ _ _ _ _ ht0])
    rw [e, hs, Nat.zero_add]
    rfl
  · have hm0 : Prb.mayB a b = false := by simpa using hm
    have eT : Tn.turnsL a b p l = [] := by unfold Tn.turnsL; rw [if_neg hm]
    rw [eT]
    cases hk : l.length with
    | zero => rfl
    | succ k =>
      rw [rndN]
      have : ref22_Turns_0_s a b l 0 (p.Good, p.Bad, p.Ready, [], []) = .out (p.Good, p.Bad, p.Ready, [], []) := by
        unfold ref22_Turns_0_s
        rw [May_eq, hm0]
        rfl
      rw [this]
      rfl
theorem sameInts_eq (l : List Int) (h : l.length ≤ 1048576) : ref0_SameInts l l = some true := by
  unfold ref0_SameInts
  simp only [decide_true, cond_true]
  rw [if_pos (by omega), rnd_pass l.length 0 (fun j _ hj => by
    unfold ref0_SameInts_0_s
    rw [if_pos (by omega)]
    simp)]
  rfl
theorem sameBools_eq (l : List Bool) (h : l.length ≤ 1048576) : ref0_SameBools l l = some true := by
  unfold ref0_SameBools
  simp only [decide_true, cond_true]
  rw [if_pos (by omega), rnd_pass l.length 0 (fun j _ hj => by
    unfold ref0_SameBools_0_s
    rw [if_pos (by omega)]
    simp)]
  rfl
theorem take_step {α : Type} [Inhabited α] (a : List α) (j : Nat) (h : j < a.length) : a.take (j + 1) = a.take j ++ [el a j] := by
  rw [List.take_succ_eq_append_getElem h, el_at h]
theorem got1 (x : law22_Rates) (p : Probe) (l : List Bool) (hl : l.length ≤ 1048576) : rndN (law22_ProbeTurned_1_s x p l) (Tn.turnsL x.Rise x.Fall p l).length 0 ([], []) = .go (fsI (Tn.turnsL x.Rise x.Fall p l), fsB (Tn.turnsL x.Rise x.Fall p l)) := by
  have hT := turns_len p l x.Rise x.Fall
  obtain ⟨T, hTe⟩ : ∃ T, Tn.turnsL x.Rise x.Fall p l = T := ⟨_, rfl⟩
  rw [hTe] at hT ⊢
  obtain ⟨s, e, hs⟩ := rnd_inv (step := law22_ProbeTurned_1_s x p l) (I := fun j s => s = (fsI (T.take j), fsB (T.take j))) T.length 0 ([], []) rfl (fun j s _ hj hs => by
    subst hs
    unfold law22_ProbeTurned_1_s
    rw [hTe, if_pos (fitS (by unfold fsI; rw [List.length_map, List.length_take]; omega) (by omega)), if_pos (fitS (by unfold fsB; rw [List.length_map, List.length_take]; omega) (by omega))]
    refine ⟨_, rfl, ?_⟩
    rw [take_step T j (by omega)]
    unfold fsI fsB
    simp)
  rw [e, hs, Nat.zero_add, List.take_length]
theorem got2 (x : law22_Rates) (p : Probe) (l : List Bool) (hl : l.length ≤ 1048576) : rndN (law22_ProbeTurned_2_s x p l) (Tn.turnsL x.Rise x.Fall p l).length 0 ([], []) = .go (fsI (Tn.turnsL x.Rise x.Fall p l), fsB (Tn.turnsL x.Rise x.Fall p l)) := got1 x p l hl
theorem got3 (x : law22_Rates) (p : Probe) (l : List Bool) (hl : l.length ≤ 1048576) : law22_ProbeTurned_j0 x p l = some (fsI ((Tn.turnsL x.Rise x.Fall p l).take 1), fsB ((Tn.turnsL x.Rise x.Fall p l).take 1)) := by
  unfold law22_ProbeTurned_j0
  have hT := turns_len p l x.Rise x.Fall
  obtain ⟨T, hTe⟩ : ∃ T, Tn.turnsL x.Rise x.Fall p l = T := ⟨_, rfl⟩
  rw [hTe] at hT ⊢
  rcases rnd_inv2 (step := law22_ProbeTurned_3_s x p l) (I := fun j s => s = (fsI (T.take j), fsB (T.take j)) ∧ j ≤ 1) (O := fun s => s = (fsI (T.take 1), fsB (T.take 1))) T.length 0 ([], []) ⟨rfl, by omega⟩ (fun j s _ hj hs => by
    obtain ⟨rfl, hj1⟩ := hs
    have hlen : (fsI (T.take j)).length = j := by unfold fsI; rw [List.length_map, List.length_take]; omega
    unfold law22_ProbeTurned_3_s
    rw [hTe]
    by_cases h1 : j = 1
    · subst h1
      rw [decide_eq_true (by rw [hlen]; rfl), cond_true]
      exact .inr ⟨_, rfl, rfl⟩
    · rw [decide_eq_false (by rw [hlen]; omega), cond_false, if_pos (fitS (by rw [hlen]; omega) (by omega)), if_pos (fitS (by unfold fsB; rw [List.length_map, List.length_take]; omega) (by omega))]
      refine .inl ⟨_, rfl, ?_, by omega⟩
      rw [take_step T j (by omega)]
      unfold fsI fsB
      simp) with ⟨s, e, hs, h1⟩ | ⟨s, e, hs⟩
  · rw [e, hs, Nat.zero_add, List.take_length, List.take_of_length_le (by omega)]
    rfl
  · rw [e, hs]
    rfl
theorem pure_ProbeTurned (p : Probe) (l : List Bool) (x : law22_Rates) (O0 : OkProbe p) (O1 : l.length * 1 ≤ 140737488351232 ∧ l.length ≤ 9223372036854775807 ∧ ∀ x ∈ l, (fun _ : Bool => True) x) (O2 : Oklaw22_Rates x) (hl : l.length ≤ 1048576) : law22_ProbeTurned p l x = some true := by
  have hT := turns_len p l x.Rise x.Fall
  have hI : (fsI (Tn.turnsL x.Rise x.Fall p l)).length = (Tn.turnsL x.Rise x.Fall p l).length := List.length_map _
  have hB : (fsB (Tn.turnsL x.Rise x.Fall p l)).length = (Tn.turnsL x.Rise x.Fall p l).length := List.length_map _
  have eT : probe_Turns p l x.Rise x.Fall = some l := by
    unfold probe_Turns
    rw [if_pos ⟨by omega, by unfold maxLen; omega⟩]
  unfold law22_ProbeTurned
  rw [if_pos (by omega), eT, Option.bind_some, refTurns_eq p l _ _ hl, Option.bind_some, kit_KeptBools_eq l (by omega), Option.bind_some, cond_true, if_pos (by omega)]
  obtain ⟨s1, e1, _⟩ := rnd_inv (step := law22_ProbeTurned_0_s l) (I := fun _ s => l.length ≤ s.length) l.length 0 (l ++ marksBool) (by rw [List.length_append]; omega) (fun j s _ hj hI => by
    unfold law22_ProbeTurned_0_s
    rw [if_pos hI]
    exact ⟨_, rfl, by rw [List.length_set]; exact hI⟩)
  rw [e1]
  simp only [Res.opt]
  rw [if_pos (by omega), got1 x p l hl]
  simp only
  rw [if_pos (by omega), List.take_length, sameInts_eq _ (by omega), Option.bind_some, cond_true, if_pos (by omega), hI, ← hB, List.take_length, sameBools_eq _ (by omega), Option.bind_some, cond_true, hB, got2 x p l hl]
  simp only
  rw [sameInts_eq _ (by omega), Option.bind_some, cond_true]
  try simp only [hI, hB]
  rw [sameBools_eq _ (by omega), Option.bind_some, cond_true, got3 x p l hl, Option.bind_some]
  have hm : (min (((Tn.turnsL x.Rise x.Fall p l).length : Nat) : Int) 1).toNat = min 1 (Tn.turnsL x.Rise x.Fall p l).length := by omega
  have t1 : (fsI (Tn.turnsL x.Rise x.Fall p l)).take (min 1 (Tn.turnsL x.Rise x.Fall p l).length) = fsI ((Tn.turnsL x.Rise x.Fall p l).take 1) := by
    unfold fsI
    rw [← List.map_take, List.take_eq_take_min (i := 1), Nat.min_comm]
  have t2 : (fsB (Tn.turnsL x.Rise x.Fall p l)).take (min 1 (Tn.turnsL x.Rise x.Fall p l).length) = fsB ((Tn.turnsL x.Rise x.Fall p l).take 1) := by
    unfold fsB
    rw [← List.map_take, List.take_eq_take_min (i := 1), Nat.min_comm]
  rw [if_pos (by omega)]
  simp only
  rw [hm, t1, sameInts_eq _ (by unfold fsI; rw [List.length_map, List.length_take]; omega), Option.bind_some, cond_true, if_pos (by omega), t2, sameBools_eq _ (by unfold fsB; rw [List.length_map, List.length_take]; omega)]
  rfl
end Go.Proofs.Ytkifbcjmmkbilaa.Ag
