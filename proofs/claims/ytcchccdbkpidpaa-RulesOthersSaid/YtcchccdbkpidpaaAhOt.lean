/- RulesOthers, in plain Lean. -/
import Derived.Test.YtcchccdbkpidpaaAhKp
import Derived.Test.YtcchccdbkpidpaaAg5
set_option maxRecDepth 100000
set_option linter.unusedVariables false
set_option linter.unusedSimpArgs false
namespace Go.Proofs.Ytcchccdbkpidpaa.Ag
open Go Go.RowKit Go.Proofs.Ytcchccdbkpidpaa.Av Go.Proofs.Ytcchccdbkpidpaa.AvT Go.Proofs.Ytcchccdbkpidpaa.AvS

theorem spawn_flat (f : Fleet) (pod : Object) (hd : f.Deploys.length ≤ 300) (hp : f.Pods.length ≤ 300) : ∃ e, rules_Spawn f pod = some e ∧ flatE e = true := by
  unfold rules_Spawn
  rw [if_pos (by omega)]
  have hsame : rules_Spawn_0_s f pod = law16_at_0_s f.Deploys pod.Deploy := rfl
  rw [hsame]
  rcases rnd_find (p := fun j => decide ((el f.Deploys j).Name = pod.Deploy)) (step := law16_at_0_s f.Deploys pod.Deploy) f.Deploys.length 0 (fun j _ _ => rfl) with ⟨e, h2⟩ | ⟨j, _, hj, e, h2, h3⟩
  · rw [e]
    exact ⟨_, rfl, rfl⟩
  · rw [e]
    simp only [Res.opt]
    rw [show (decide (((j : Nat) : Int) < (0 : Int))) = false from decide_eq_false (by omega)]
    simp only [cond_false]
    obtain ⟨n, hn⟩ := Owned_some f (el f.Deploys ((j : Nat) : Int).toNat).Name hp
    rw [if_pos (by omega), Owned_same, hn]
    simp only [Option.bind_some, rules_held]
    generalize decide (_ ≤ n) = b
    cases b <;> exact ⟨_, rfl, rfl⟩
theorem bind_flat (f : Fleet) (p n : ByteArray) (hn : f.Nodes.length ≤ 300) (hp : f.Pods.length ≤ 300) : ∃ e, rules_Bind f p n = some e ∧ flatE e = true := by
  have e0 : rules_Bind_0_s f p = law16_at_0_s f.Pods p := rfl
  have e1 : rules_Bind_1_s f n = law16_at_0_s f.Nodes n := rfl
  have e2 : rules_Bind_2_s f n = law16_at_0_s f.Nodes n := rfl
  have e3 : rules_Bind_3_s f n = law16_at_0_s f.Nodes n := rfl
  unfold rules_Bind
  have hP : f.Pods.length ≤ 9223372036854775807 := by omega
  have hN : f.Nodes.length ≤ 9223372036854775807 := by omega
  simp only [if_pos hP, if_pos hN, e0, e1, e2, e3]
  rcases rnd_find (p := fun j => decide ((el f.Pods j).Name = p)) (step := law16_at_0_s f.Pods p) f.Pods.length 0 (fun j _ _ => rfl) with ⟨e, h2⟩ | ⟨j, _, hj, e, h2, h3⟩
  · rw [e]
    simp only [Res.opt]
    rcases rnd_find (p := fun j => decide ((el f.Nodes j).Name = n)) (step := law16_at_0_s f.Nodes n) f.Nodes.length 0 (fun j _ _ => rfl) with ⟨e', g2⟩ | ⟨k, _, hk, e', g2, g3⟩
    · rw [e']; exact ⟨_, rfl, rfl⟩
    · rw [e']
      simp only []
      rw [show (decide (((k : Nat) : Int) < (0 : Int))) = false from decide_eq_false (by omega), cond_false, if_pos (by omega)]
      exact ⟨_, rfl, rfl⟩
  · rw [e]
    simp only [Res.opt]
    rw [show (decide (((j : Nat) : Int) < (0 : Int))) = false from decide_eq_false (by omega), cond_false, if_pos (by omega)]
    rcases rnd_find (p := fun j => decide ((el f.Nodes j).Name = n)) (step := law16_at_0_s f.Nodes n) f.Nodes.length 0 (fun j _ _ => rfl) with ⟨e', g2⟩ | ⟨k, _, hk, e', g2, g3⟩
    · rw [e']; exact ⟨_, rfl, rfl⟩
    · rw [e']
      simp only [Int.toNat_natCast]
      rw [show (decide (((k : Nat) : Int) < (0 : Int))) = false from decide_eq_false (by omega), cond_false, if_pos (by omega)]
      cases decide (n = (⟨#[]⟩ : ByteArray)) with
      | true => exact ⟨_, rfl, rfl⟩
      | false =>
        rw [cond_false]
        cases (el f.Pods j).Ending with
        | true => exact ⟨_, rfl, rfl⟩
        | false =>
          rw [cond_false]
          cases decide ((el f.Pods j).Node = (⟨#[]⟩ : ByteArray)) with
          | false => exact ⟨_, rfl, rfl⟩
          | true =>
            rw [cond_true]
            cases (el f.Nodes k).Lost with
            | true => exact ⟨_, rfl, rfl⟩
            | false =>
              rw [cond_false]
              cases (el f.Nodes k).Cordoned with
              | true => exact ⟨_, rfl, rfl⟩
              | false =>
                obtain ⟨a, ha⟩ := Used_some f n hp
                rw [cond_false, Used_same, ha]
                simp only [Option.bind_some, rules_both, rules_held, fits_val]
                generalize fitB _ _ = b
                cases b <;> exact ⟨_, rfl, rfl⟩
theorem CopyFleet_eq (f : Fleet) (h : OkFl f) : ref0_CopyFleet f = some f := by
  unfold ref0_CopyFleet
  rw [ref0_CopyObjects_eq _ h.n h.ln, ref0_CopyObjects_eq _ h.p h.lp, ref0_CopyObjects_eq _ h.d h.ld, ref0_CopyObjects_eq _ h.b h.lb]
  rfl
theorem bind_only (f : Fleet) (p n : ByteArray) : rules_Bind ⟨f.Nodes, f.Pods, [], []⟩ p n = rules_Bind f p n := rfl
theorem spawn_only (f : Fleet) (o : Object) : rules_Spawn ⟨[], f.Pods, f.Deploys, []⟩ o = rules_Spawn f o := rfl
theorem pure_RulesOthers (f : Fleet) (pod node : Int) (O0 : OkFleet f) (O1 : (Lit.int .i64 pod).wf = true) (O2 : (Lit.int .i64 node).wf = true) : law16_RulesOthers f pod node = some true := by
  unfold law16_RulesOthers law16_RulesOthers_j0
  rw [works_eq]
  simp only [Option.bind_some, cond_true]
  rcases big_cases f with h | ⟨h, hl⟩
  · rw [h]; rfl
  rw [h]
  have hf := okFl_of O0 hl
  have hn := hf.n
  have hp := hf.p
  have hd := hf.d
  obtain ⟨p, ep⟩ := pick_some f.Pods pod (by omega)
  obtain ⟨n, en⟩ := pick_some f.Nodes node (by omega)
  obtain ⟨d, ed⟩ := pick_some f.Deploys pod (by omega)
  rw [CopyFleet_eq f hf, ep, en, ed]
  simp only [Option.bind_some, cond_false]
  rw [bind_only, spawn_only]
  obtain ⟨e, he, hfl⟩ := bind_flat f p n hn hp
  rw [he]
  simp only [Option.bind_some]
  simp only [if_pos hfl, decide_true, cond_true]
  obtain ⟨e', he', hfl'⟩ := spawn_flat f _ hd hp
  rw [he']
  simp only [Option.bind_some]
  simp only [if_pos hfl', decide_true, cond_true]
  rcases evict_cases f p hf with ⟨a, e1, hc⟩ | ⟨e1, j, hj, hat, hE, hR⟩
  · rcases hc with hat | ⟨j, hj, hat, hc⟩
    · rw [hat]; rfl
    · rw [hat]
      simp only [Option.bind_some]
      rw [decide_eq_false (show ¬ ((j : Nat) : Int) < 0 by omega), cond_false, if_pos (show 0 ≤ ((j : Nat) : Int) ∧ ((j : Nat) : Int) < ((f.Pods.length : Nat) : Int) by omega), Int.toNat_natCast]
      rcases hc with hc | hc
      · rw [hc]; cases (el f.Pods j).Ready <;> rfl
      · rw [hc]; rfl
  · rw [e1, hat]
    simp only [Option.bind_some]
    rw [decide_eq_false (show ¬ ((j : Nat) : Int) < 0 by omega), cond_false, if_pos (show 0 ≤ ((j : Nat) : Int) ∧ ((j : Nat) : Int) < ((f.Pods.length : Nat) : Int) by omega), Int.toNat_natCast, hE]
    cases (el f.Pods j).Ready <;> rfl
end Go.Proofs.Ytcchccdbkpidpaa.Ag
