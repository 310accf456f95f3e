/- ProbeCounted, in plain Lean. -/
import Derived.Test.YtkifbcjmmkbilaaDoorAg3
set_option maxRecDepth 100000
set_option linter.unusedVariables false
set_option linter.unusedSimpArgs false
namespace Go.Proofs.YtkifbcjmmkbilaaDoor.Ag
open Go Go.RowKit Go.Proofs.YtkifbcjmmkbilaaDoor.Av Go.Proofs.YtkifbcjmmkbilaaDoor.AvT Go.Proofs.YtkifbcjmmkbilaaDoor.AvS

theorem kit_LentBools_eq (l : List Bool) (h : l.length ≤ 140737488351232) : kit_LentBools l = some l := by
  unfold kit_LentBools
  rw [if_pos h]
theorem kit_KeptBools_eq (l : List Bool) (h : l.length ≤ 140737488351232) : kit_KeptBools marksBool l l = some true := by
  have hl : (l ++ marksBool).length = l.length + 16 := by rw [List.length_append, marksBool_len]
  unfold kit_KeptBools
  rw [i64_small (by omega), hl]
  simp only [decide_true, cond_true]
  rw [if_pos (by omega), List.take_of_length_le (by rw [hl]; omega), kit_KeptFullBools_eq l h]
  rfl
theorem may_eq (rise fall : Int) : probe_may rise fall = some (Prb.mayB rise fall) := by
  unfold probe_may Prb.mayB
  cases decide ((1 : Int) ≤ min rise fall) <;> rfl
theorem May_eq (rise fall : Int) : ref22_May rise fall = some (Prb.mayB rise fall) := by
  unfold ref22_May Prb.mayB
  by_cases h1 : (1 : Int) ≤ rise
  · by_cases h2 : rise ≤ 8
    · by_cases h3 : (1 : Int) ≤ fall
      · rw [decide_eq_true h1, decide_eq_true h2, decide_eq_true h3, decide_eq_true (show (1 : Int) ≤ min rise fall by omega)]
        simp only [cond_true, Bool.true_and]
        congr 1
        exact decide_eq_decide.2 (by omega)
      · rw [decide_eq_true h1, decide_eq_true h2, decide_eq_false h3, decide_eq_false (show ¬ (1 : Int) ≤ min rise fall by omega)]
        rfl
    · rw [decide_eq_true h1, decide_eq_false h2, decide_eq_false (show ¬ max rise fall ≤ 8 by omega), Bool.and_false]
      rfl
  · rw [decide_eq_false h1, decide_eq_false (show ¬ (1 : Int) ≤ min rise fall by omega)]
    rfl
theorem may_in {rise fall : Int} (h : Prb.mayB rise fall = true) : 1 ≤ rise ∧ rise ≤ 8 ∧ 1 ≤ fall ∧ fall ≤ 8 := by
  unfold Prb.mayB at h
  rw [Bool.and_eq_true, decide_eq_true_iff, decide_eq_true_iff] at h
  omega
def prb (p : Prb.Pr) : Probe := ⟨p.1, p.2.1, p.2.2⟩
theorem next_eq (p : Prb.Pr) (ok : Bool) (rise fall : Int) (hm : Prb.mayB rise fall = true) : probe_next (prb p) ok rise fall = some (prb (Prb.nextP p ok rise fall)) := by
  have := may_in hm
  unfold probe_next Prb.nextP prb
  rw [i64_small (n := rise - 1) (by omega), i64_small (n := fall - 1) (by omega), i64_small (n := min (max p.1 0) (rise - 1) + 1) (by omega), i64_small (n := min (max p.2.1 0) (fall - 1) + 1) (by omega)]
  cases ok <;> cases hr : p.2.2 <;> simp
theorem rnext_eq (p : Prb.Pr) (ok : Bool) (rise fall : Int) (hm : Prb.mayB rise fall = true) : ref22_Next (prb p) ok rise fall = some (prb (Prb.nextP p ok rise fall), 0) := by
  have := may_in hm
  unfold ref22_Next Prb.nextP prb ref22_more
  rw [May_eq, hm, i64_small (n := rise - 1) (by omega), i64_small (n := fall - 1) (by omega), i64_small (n := min (max p.1 0) (rise - 1) + 1) (by omega), i64_small (n := min (max p.2.1 0) (fall - 1) + 1) (by omega)]
  have hlt : decide (min (max p.2.1 0) (fall - 1) + 1 < fall) = !decide (min (max p.2.1 0) (fall - 1) + 1 = fall) := by
    rw [← decide_not]
    exact decide_eq_decide.2 (by omega)
  cases ok <;> cases hr : p.2.2 <;> simp [hlt]
theorem all_eq (p : Prb.Pr) (l : List Bool) (rise fall : Int) (hn : l.length ≤ 140737488351232) : ref22_All (prb p) l rise fall = some ((allQ (prb p) l rise fall).1, match Prb.mayB rise fall with | true => 0 | false => 1) := by
  unfold ref22_All allQ
  rw [May_eq]
  cases hm : Prb.mayB rise fall with
  | false => rfl
  | true =>
    simp only [Option.bind_some, cond_true]
    rw [if_pos (by omega)]
    obtain ⟨s, e, hs⟩ := rnd_inv (step := ref22_All_0_s l rise fall) (I := fun i s => s = Prb.allP p (l.take i) rise fall) l.length 0 p rfl (fun j s _ hj hs => by
      unfold ref22_All_0_s
      subst hs
      have := rnext_eq (Prb.allP p (l.take j) rise fall) (el l j) rise fall hm
      unfold prb at this
      refine ⟨_, by rw [this]; rfl, ?_⟩
      show Prb.nextP (Prb.allP p (l.take j) rise fall) (el l j) rise fall = _
      unfold Prb.allP
      rw [List.take_succ_eq_append_getElem (by omega), List.foldl_append, el_at (by omega)]
      rfl)
    rw [show ((prb p).Good, (prb p).Bad, (prb p).Ready) = p from rfl, e]
    simp only [Res.opt]
    rw [hs, Nat.zero_add, List.take_length]
theorem plain_ok : plainQ .ok 0 = true := rfl
theorem plain_no : plainQ (.no 1) 1 = true := rfl
theorem same3 (a b : Int) (c : Bool) : ((decide (a = a)) && ((decide (b = b)) && ((c == c) && true))) = true := by simp
theorem turn_eq (p : Prb.Pr) (ok : Bool) (rise fall : Int) : ∃ q e n, probe_Next (prb p) ok rise fall = some (q, e) ∧ ref22_Next (prb p) ok rise fall = some (q, n) ∧ plainQ e n = true := by
  unfold probe_Next
  rw [may_eq]
  cases hm : Prb.mayB rise fall with
  | true => exact ⟨_, _, _, by rw [Option.bind_some, cond_true, next_eq p ok rise fall hm]; rfl, rnext_eq p ok rise fall hm, plain_ok⟩
  | false =>
    refine ⟨_, _, _, rfl, ?_, plain_no⟩
    unfold ref22_Next
    rw [May_eq, hm]
    rfl
theorem pure_ProbeCounted (pp : Probe) (l : List Bool) (x : law22_Rates) (O0 : OkProbe pp) (O1 : l.length * 1 ≤ 140737488351232 ∧ l.length ≤ 9223372036854775807 ∧ ∀ x ∈ l, True) (O2 : Oklaw22_Rates x) : law22_ProbeCounted pp l x = some true := by
  have hn : l.length ≤ 140737488351232 := by have := O1.1; omega
  obtain ⟨p, rfl⟩ : ∃ p, pp = prb p := ⟨(pp.Good, pp.Bad, pp.Ready), rfl⟩
  unfold law22_ProbeCounted
  rw [kit_LentBools_eq l hn, all_eq p l x.Rise x.Fall hn]
  simp only [Option.bind_some]
  rw [if_pos (by omega)]
  simp only [decide_true, Bool.true_and, beq_self_eq_true, Bool.and_true, cond_true]
  have hpl : plainQ (allQ (prb p) l x.Rise x.Fall).2 (match Prb.mayB x.Rise x.Fall with | true => 0 | false => 1) = true := by
    unfold allQ
    cases Prb.mayB x.Rise x.Fall <;> rfl
  rw [hpl, cond_true, kit_KeptBools_eq l hn]
  simp only [Option.bind_some, cond_true]
  obtain ⟨q, e, n, h1, h2, h3⟩ := turn_eq p true x.Rise x.Fall
  obtain ⟨q', e', n', h1', h2', h3'⟩ := turn_eq p false x.Rise x.Fall
  rw [h1, h2, h1', h2']
  simp only [Option.bind_some, decide_true, Bool.true_and, beq_self_eq_true, Bool.and_true, cond_true]
  rw [h3, h3']
  rfl
end Go.Proofs.YtkifbcjmmkbilaaDoor.Ag
