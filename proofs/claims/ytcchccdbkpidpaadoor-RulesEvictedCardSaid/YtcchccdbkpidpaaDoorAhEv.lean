/- RulesEvicted, in plain Lean. -/
import Derived.Test.YtcchccdbkpidpaaDoorAhMt
set_option maxRecDepth 100000
set_option linter.unusedVariables false
set_option linter.unusedSimpArgs false
namespace Go.Proofs.YtcchccdbkpidpaaDoor.Ag
open Go Go.RowKit Go.Proofs.YtcchccdbkpidpaaDoor.Av Go.Proofs.YtcchccdbkpidpaaDoor.AvT Go.Proofs.YtcchccdbkpidpaaDoor.AvS

theorem rnd_rel2 {ρ1 ρ2 : Type} {s1 : Nat → Unit → Res Unit ρ1} {s2 : Nat → Unit → Res Unit ρ2} {R : ρ1 → ρ2 → Prop} : ∀ (k i : Nat), (∀ j, i ≤ j → j < i + k → (s1 j () = .go () ∧ s2 j () = .go ()) ∨ ∃ x y, s1 j () = .out x ∧ s2 j () = .out y ∧ R x y) →
    (rndN s1 k i () = .go () ∧ rndN s2 k i () = .go ()) ∨ ∃ x y, rndN s1 k i () = .out x ∧ rndN s2 k i () = .out y ∧ R x y
  | 0, i, _ => .inl ⟨rfl, rfl⟩
  | k + 1, i, h => by
    rw [rndN, rndN]
    rcases h i (Nat.le_refl _) (by omega) with ⟨e1, e2⟩ | ⟨x, y, e1, e2, r⟩
    · rw [e1, e2]
      exact rnd_rel2 k (i + 1) fun j h1 h2 => h j (by omega) (by omega)
    · rw [e1, e2]
      exact .inr ⟨x, y, rfl, rfl, r⟩
def budL (f : Fleet) (d : Int) : Option Int := if f.Budgets.length ≤ 9223372036854775807 then (Res.opt (rndN (ref16_Evict_0_s f d) f.Budgets.length 0 ()) (fun s59 => some (0 : Int)) (fun d64 => some d64)) else none
theorem bud_both (f : Fleet) (p : Nat) (hj : p < f.Pods.length) (h : OkFl f) : (rules_Evict_j3 f ((p : Nat) : Int) = some false ∧ budL f ((p : Nat) : Int) = some 0) ∨ (rules_Evict_j3 f ((p : Nat) : Int) = some true ∧ budL f ((p : Nat) : Int) = some 22) := by
  have hbl := h.b
  unfold rules_Evict_j3 budL
  rw [if_pos (by omega), if_pos (by omega)]
  rcases rnd_rel2 (R := fun (x y : Int) => 0 ≤ x ∧ y = 22) (s1 := rules_Evict_2_s f ((p : Nat) : Int)) (s2 := ref16_Evict_0_s f ((p : Nat) : Int)) f.Budgets.length 0 (fun i _ hi => by
    have hb := h.lb _ (el_mem (l := f.Budgets) (i := i) (by omega))
    have hp := (h.lp _ (el_mem (l := f.Pods) (i := p) hj)).1
    obtain ⟨g, hg, g0, g1⟩ := Guarded_some f (el f.Budgets i) h.p h.lp hb
    unfold rules_Evict_2_s rules_Evict_j2 ref16_Evict_0_s ref16_Evict_j1
    rw [Int.toNat_natCast, if_pos ⟨hb.2, hp⟩, Matches_eq _ _ hb.2 hp, Guarded_same f _ h.lp hb, hg]
    cases Ak.matchesQ (el f.Budgets i).Select (el f.Pods p).Labels with
    | false => exact .inl ⟨rfl, rfl⟩
    | true =>
      simp only [cond_true, Option.bind_some, optRes]
      have hw : IntKind.i64.wrap (g - 1) = g - 1 := i64_small (by omega)
      rw [hw]
      by_cases hc : g ≤ (el f.Budgets i).Least
      · rw [decide_eq_true hc, decide_eq_true (show g - 1 < (el f.Budgets i).Least by omega)]
        exact .inr ⟨_, _, rfl, rfl, by omega, rfl⟩
      · rw [decide_eq_false hc, decide_eq_false (show ¬ g - 1 < (el f.Budgets i).Least by omega)]
        exact .inl ⟨rfl, rfl⟩) with ⟨e1, e2⟩ | ⟨x, y, e1, e2, r1, r2⟩
  · rw [e1, e2]; exact .inl ⟨rfl, rfl⟩
  · rw [e1, e2, r2]
    refine .inr ⟨?_, rfl⟩
    show some (decide (0 ≤ x)) = _
    rw [decide_eq_true r1]
theorem evict_both (f : Fleet) (p : ByteArray) (h : OkFl f) : ∃ e m, rules_Evict f p = some e ∧ ref16_Evict f p = some m ∧ plainQ e m = true := by
  have hp := h.p
  have hd := h.d
  unfold rules_Evict ref16_Evict
  have s0 : rules_Evict_j0 f p = ref16_Find f.Pods p := rfl
  rw [s0]
  rcases find_cases f.Pods p hp with ⟨e1, _, _⟩ | ⟨j, hj, e1, _, _⟩
  · rw [e1]
    exact ⟨.no 10, 10, rfl, rfl, by decide⟩
  · rw [e1]
    simp only [Option.bind_some]
    rw [decide_eq_false (show ¬ ((j : Nat) : Int) < 0 by omega), cond_false, cond_false, if_pos (show 0 ≤ ((j : Nat) : Int) ∧ ((j : Nat) : Int) < ((f.Pods.length : Nat) : Int) by omega), if_pos (show 0 ≤ ((j : Nat) : Int) ∧ ((j : Nat) : Int) < ((f.Pods.length : Nat) : Int) by omega)]
    have hb : (if f.Budgets.length ≤ 9223372036854775807 then (Res.opt (rndN (ref16_Evict_0_s f ((j : Nat) : Int)) f.Budgets.length 0 ()) (fun s59 => some (0 : Int)) (fun d64 => some d64)) else none) = budL f ((j : Nat) : Int) := rfl
    rw [hb]
    unfold rules_Evict_j6
    have s1 : rules_Evict_j1 f ((j : Nat) : Int) = ref16_Find f.Deploys (el f.Pods (((j : Nat) : Int)).toNat).Deploy := rfl
    have s5 : rules_Evict_j5 f ((j : Nat) : Int) = rules_Evict_j3 f ((j : Nat) : Int) := rfl
    rw [s1, s5]
    have hB := bud_both f j hj h
    simp only [Int.toNat_natCast]
    cases (el f.Pods j).Ending with
    | true => exact ⟨.no 27, 27, rfl, rfl, by decide⟩
    | false =>
      rw [cond_false, cond_false]
      cases (el f.Pods j).Ready with
      | false => exact ⟨.ok, 0, rfl, rfl, by decide⟩
      | true =>
        rw [cond_true, cond_true]
        rcases find_cases f.Deploys (el f.Pods j).Deploy hd with ⟨e3, _, _⟩ | ⟨k, hk, e3, _, _⟩
        · rw [e3]
          simp only [Option.bind_some, ref16_Evict_j0]
          rw [show decide ((-1 : Int) < 0) = true from rfl, show decide ((0 : Int) ≤ -1) = false from rfl, cond_true, cond_false, Option.bind_some, cond_false]
          rcases hB with ⟨b1, b2⟩ | ⟨b1, b2⟩
          · rw [b1, b2]; exact ⟨.ok, 0, rfl, rfl, by decide⟩
          · rw [b1, b2]; exact ⟨.no 22, 22, rfl, rfl, by decide⟩
        · rw [e3]
          obtain ⟨n, hn⟩ := Ready_some f (el f.Pods j).Deploy hp
          simp only [Option.bind_some, ref16_Evict_j0]
          rw [decide_eq_false (show ¬ ((k : Nat) : Int) < 0 by omega), decide_eq_true (show (0 : Int) ≤ ((k : Nat) : Int) by omega), cond_false, cond_true, if_pos (show 0 ≤ ((k : Nat) : Int) ∧ ((k : Nat) : Int) < ((f.Deploys.length : Nat) : Int) by omega)]
          simp only [Int.toNat_natCast, Ready_same, hn, Option.bind_some]
          rw [if_pos (show 0 ≤ ((k : Nat) : Int) ∧ ((k : Nat) : Int) < ((f.Deploys.length : Nat) : Int) by omega)]
          simp only [Option.bind_some, rules_held, ref16_Held]
          cases decide (IntKind.i64.wrap (n - 1) < IntKind.i64.wrap (min (max (el f.Deploys k).Count (-1125899906842624)) 1125899906842624 - min (max (el f.Deploys k).Slack (-1125899906842624)) 1125899906842624)) with
          | true => exact ⟨.no 21, 21, rfl, rfl, by decide⟩
          | false =>
            rw [cond_false, cond_false]
            rcases hB with ⟨b1, b2⟩ | ⟨b1, b2⟩
            · rw [b1, b2]; exact ⟨.ok, 0, rfl, rfl, by decide⟩
            · rw [b1, b2]; exact ⟨.no 22, 22, rfl, rfl, by decide⟩
theorem pure_RulesEvicted (f : Fleet) (pod : ByteArray) (O0 : OkFleet f) (O1 : pod.size ≤ 140737488351232) : law16_RulesEvicted f pod = some true := by
  unfold law16_RulesEvicted
  rcases big_cases f with h | ⟨h, hl⟩
  · rw [h]; rfl
  have hf := okFl_of O0 hl
  obtain ⟨e, m, h1, h2, h3⟩ := evict_both f pod hf
  rw [h, Option.bind_some, cond_false, kit_LentFleet_eq f hf, Option.bind_some, h1, Option.bind_some, h2, Option.bind_some, h3, cond_true, kit_KeptFleet_eq f hf]
  rfl
end Go.Proofs.YtcchccdbkpidpaaDoor.Ag
