/- RulesBound and RulesSound, in plain Lean: the program's answer is the document's, and what was lent was kept. -/
import Derived.Test.YtcchccdbkpidpaaDoorAg4
import Derived.Test.YtcchccdbkpidpaaDoorAhSp
set_option maxRecDepth 100000
set_option linter.unusedVariables false
set_option linter.unusedSimpArgs false
namespace Go.Proofs.YtcchccdbkpidpaaDoor.Ag
open Go Go.RowKit Go.Proofs.YtcchccdbkpidpaaDoor.Av Go.Proofs.YtcchccdbkpidpaaDoor.AvT Go.Proofs.YtcchccdbkpidpaaDoor.AvS

theorem both_same (a b : Amount) : rules_both a b = ref16_both a b := by
  unfold rules_both ref16_both rules_held
  simp only [Option.bind_some]
  have h : ∀ n : Int, max (min (max n (-1125899906842624)) 1125899906842624) 0 = min (max n 0) 1125899906842624 := fun n => by omega
  rw [h, h]
theorem Used_same (f : Fleet) (node : ByteArray) : rules_Used f node = ref16_Used f node := by
  unfold rules_Used ref16_Used
  have : rules_Used_0_s node f = ref16_Used_0_s node f := by
    funext i s
    unfold rules_Used_0_s ref16_Used_0_s
    rw [both_same]
  rw [this]
theorem Used_some (f : Fleet) (node : ByteArray) (h : f.Pods.length ≤ 300) : ∃ a, ref16_Used f node = some a := by
  unfold ref16_Used
  rw [if_pos (by omega)]
  obtain ⟨s, e⟩ := rnd_go (step := ref16_Used_0_s node f) (k := f.Pods.length) (i := 0) (s := ((0 : Int), (0 : Int))) (fun j s _ hj => by
    unfold ref16_Used_0_s
    cases decide (node = (⟨#[]⟩ : ByteArray)) <;> cases decide ((el f.Pods j).Node = node) <;> simp [ref16_both, optRes])
  rw [e]
  exact ⟨_, rfl⟩
/-- What Find answers: none, or the first one. -/
theorem find_cases (l : List Object) (n : ByteArray) (h : l.length ≤ 300) : (ref16_Find l n = some (-1) ∧ rndN (ref16_Find_0_s l n) l.length 0 () = .go () ∧ ∀ j, j < l.length → decide ((el l j).Name = n) = false) ∨
    ∃ j, j < l.length ∧ ref16_Find l n = some ((j : Nat) : Int) ∧ rndN (ref16_Find_0_s l n) l.length 0 () = .out ((j : Nat) : Int) ∧ decide ((el l j).Name = n) = true := by
  unfold ref16_Find
  rw [if_pos (by omega)]
  rcases rnd_find (p := fun j => decide ((el l j).Name = n)) (step := ref16_Find_0_s l n) l.length 0 (fun j _ _ => rfl) with ⟨e, h2⟩ | ⟨j, _, hj, e, h2, _⟩
  · rw [e]; exact .inl ⟨rfl, rfl, fun j hj => h2 j (Nat.zero_le _) (by omega)⟩
  · rw [e]; exact .inr ⟨j, by omega, rfl, rfl, h2⟩
theorem fits_same (a r : Amount) : amount_Fits a r = some (!(bif (decide (r.Cpu < a.Cpu)) then true else decide (r.Mem < a.Mem))) := by
  unfold amount_Fits
  by_cases h : a.Cpu ≤ r.Cpu
  · rw [decide_eq_true h, cond_true, decide_eq_false (show ¬ r.Cpu < a.Cpu by omega), cond_false]
    congr 1
    by_cases h2 : a.Mem ≤ r.Mem
    · rw [decide_eq_true h2, decide_eq_false (show ¬ r.Mem < a.Mem by omega)]; rfl
    · rw [decide_eq_false h2, decide_eq_true (show r.Mem < a.Mem by omega)]; rfl
  · rw [decide_eq_false h, cond_false, decide_eq_true (show r.Cpu < a.Cpu by omega), cond_true]; rfl
theorem bind_both (f : Fleet) (p n : ByteArray) (h : OkFl f) : ∃ e m, rules_Bind f p n = some e ∧ ref16_Bind f p n = some m ∧ plainQ e m = true := by
  have hp := h.p
  have hn := h.n
  unfold rules_Bind ref16_Bind
  have s0 : rules_Bind_0_s f p = ref16_Find_0_s f.Pods p := rfl
  have s1 : rules_Bind_1_s f n = ref16_Find_0_s f.Nodes n := rfl
  have s2 : rules_Bind_2_s f n = ref16_Find_0_s f.Nodes n := rfl
  have s3 : rules_Bind_3_s f n = ref16_Find_0_s f.Nodes n := rfl
  rw [s0, s1, s2, s3, if_pos (by omega), if_pos (by omega)]
  rcases find_cases f.Pods p hp with ⟨e1, e2, _⟩ | ⟨j, hj, e1, e2, _⟩
  · rw [e1, e2]
    rcases find_cases f.Nodes n hn with ⟨e3, e4, _⟩ | ⟨k, hk, e3, e4, _⟩
    · rw [e3, e4]
      exact ⟨.no 10, 10, rfl, rfl, by decide⟩
    · rw [e3, e4]
      simp only [Res.opt, Option.bind_some, ref16_Bind_j0]
      rw [decide_eq_false (show ¬ ((k : Nat) : Int) < 0 by omega), cond_false, if_pos (by omega)]
      exact ⟨.no 10, 10, rfl, rfl, by decide⟩
  · rw [e1, e2]
    simp only [Res.opt, Option.bind_some, ref16_Bind_j0]
    rw [decide_eq_false (show ¬ ((j : Nat) : Int) < 0 by omega), cond_false, if_pos (show 0 ≤ ((j : Nat) : Int) ∧ ((j : Nat) : Int) < ((f.Pods.length : Nat) : Int) by omega), if_pos (show f.Nodes.length ≤ 9223372036854775807 by omega)]
    rcases find_cases f.Nodes n hn with ⟨e3, e4, _⟩ | ⟨k, hk, e3, e4, _⟩
    · rw [e3, e4]
      exact ⟨.no 10, 10, rfl, rfl, by decide⟩
    · rw [e3, e4]
      simp only [Res.opt, Option.bind_some]
      simp only [decide_eq_false (show ¬ ((k : Nat) : Int) < 0 by omega), cond_false, Option.bind_some]
      rw [if_pos (show 0 ≤ ((k : Nat) : Int) ∧ ((k : Nat) : Int) < ((f.Nodes.length : Nat) : Int) by omega)]
      cases decide (n = (⟨#[]⟩ : ByteArray)) with
      | true => exact ⟨.no 10, 10, rfl, rfl, by decide⟩
      | false =>
        simp only [cond_false]
        rw [if_pos (show 0 ≤ ((j : Nat) : Int) ∧ ((j : Nat) : Int) < ((f.Pods.length : Nat) : Int) by omega), if_pos (show 0 ≤ ((k : Nat) : Int) ∧ ((k : Nat) : Int) < ((f.Nodes.length : Nat) : Int) by omega), Int.toNat_natCast, Int.toNat_natCast]
        cases (el f.Pods j).Ending with
        | true => exact ⟨.no 27, 27, rfl, rfl, by decide⟩
        | false =>
          rw [cond_false, cond_false]
          cases decide ((el f.Pods j).Node = (⟨#[]⟩ : ByteArray)) with
          | false => exact ⟨.no 26, 26, rfl, rfl, by decide⟩
          | true =>
            rw [cond_true, cond_true]
            cases (el f.Nodes k).Lost with
            | true => exact ⟨.no 25, 25, rfl, rfl, by decide⟩
            | false =>
              rw [cond_false, cond_false]
              cases (el f.Nodes k).Cordoned with
              | true => exact ⟨.no 24, 24, rfl, rfl, by decide⟩
              | false =>
                rw [cond_false, cond_false]
                obtain ⟨a, ha⟩ := Used_some f n hp
                rw [Used_same, ha, Option.bind_some, Option.bind_some, both_same]
                obtain ⟨b, hb⟩ : ∃ b, ref16_both a (el f.Pods j).Need = some b := ⟨_, rfl⟩
                rw [hb, Option.bind_some, Option.bind_some, fits_same, Option.bind_some]
                unfold ref16_Bind_j1
                rw [Int.toNat_natCast]
                cases decide ((el f.Nodes k).Room.Cpu < b.Cpu) with
                | true => exact ⟨.no 23, 23, rfl, rfl, by decide⟩
                | false =>
                  rw [cond_false, cond_false]
                  cases decide ((el f.Nodes k).Room.Mem < b.Mem) with
                  | true => exact ⟨.no 23, 23, rfl, rfl, by decide⟩
                  | false => exact ⟨.ok, 0, rfl, rfl, by decide⟩
theorem pure_RulesBound (f : Fleet) (pod node : ByteArray) (O0 : OkFleet f) (O1 : pod.size ≤ 140737488351232) (O2 : node.size ≤ 140737488351232) : law16_RulesBound f pod node = some true := by
  unfold law16_RulesBound
  rcases big_cases f with h | ⟨h, hl⟩
  · rw [h]; rfl
  have hf := okFl_of O0 hl
  obtain ⟨e, m, h1, h2, h3⟩ := bind_both f pod node hf
  rw [h, Option.bind_some, cond_false, kit_LentFleet_eq f hf, Option.bind_some, h1, Option.bind_some, h2, Option.bind_some, h3, cond_true, kit_KeptFleet_eq f hf]
  rfl
end Go.Proofs.YtcchccdbkpidpaaDoor.Ag
