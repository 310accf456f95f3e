/- The laws of chapter 16 that do without the document's answer, in plain Lean: what is common to them; RulesSurge. -/
import Derived.Test.YtcchccdbkpidpaaAg4
import Derived.Test.YtcchccdbkpidpaaAh2
set_option maxRecDepth 100000
set_option linter.unusedVariables false
set_option linter.unusedSimpArgs false
namespace Go.Proofs.Ytcchccdbkpidpaa.Ag
open Go Go.RowKit Go.Proofs.Ytcchccdbkpidpaa.Av Go.Proofs.Ytcchccdbkpidpaa.AvT Go.Proofs.Ytcchccdbkpidpaa.AvS

theorem works_eq : law16_works = some true := by kernel_rfl
theorem big_cases (f : Fleet) : law16_big f = some true ∨ (law16_big f = some false ∧ f.Nodes.length ≤ 300 ∧ f.Pods.length ≤ 300 ∧ f.Deploys.length ≤ 300 ∧ f.Budgets.length ≤ 300) := by
  unfold law16_big
  by_cases h1 : (300 : Int) < ((f.Nodes.length : Nat) : Int)
  · exact .inl (by rw [decide_eq_true h1]; rfl)
  rw [decide_eq_false h1, cond_false]
  by_cases h2 : (300 : Int) < ((f.Pods.length : Nat) : Int)
  · exact .inl (by rw [decide_eq_true h2]; rfl)
  rw [decide_eq_false h2, cond_false]
  by_cases h3 : (300 : Int) < ((f.Deploys.length : Nat) : Int)
  · exact .inl (by rw [decide_eq_true h3]; rfl)
  rw [decide_eq_false h3, cond_false]
  by_cases h4 : (300 : Int) < ((f.Budgets.length : Nat) : Int)
  · exact .inl (by rw [decide_eq_true h4])
  rw [decide_eq_false h4]
  exact .inr ⟨rfl, by omega, by omega, by omega, by omega⟩
theorem okFl_of {f : Fleet} (h : OkFleet f) (n : f.Nodes.length ≤ 300 ∧ f.Pods.length ≤ 300 ∧ f.Deploys.length ≤ 300 ∧ f.Budgets.length ≤ 300) : OkFl f := by
  obtain ⟨⟨_, _, h1⟩, ⟨_, _, h2⟩, ⟨_, _, h3⟩, ⟨_, _, h4⟩⟩ := h
  exact ⟨n.1, n.2.1, n.2.2.1, n.2.2.2, fun o ho => okLab_of (h1 o ho), fun o ho => okLab_of (h2 o ho), fun o ho => okLab_of (h3 o ho), fun o ho => okLab_of (h4 o ho)⟩
theorem ref0_CopyLabels_eq (l : List Label) (h : l.length ≤ 4398046511000) : ref0_CopyLabels l = some l := by
  unfold ref0_CopyLabels
  rw [if_pos (by omega), rnd_app (fun j => el l j) l.length 0 [] (fun j s' _ hj hs => by
    unfold ref0_CopyLabels_0_s
    rw [if_pos (fitL (by simp at hs ⊢; omega) (by decide))])]
  simp only [Res.opt, List.nil_append]
  rw [map_el]
theorem ref0_CopyObject_eq (o : Object) (h : OkLab o) : ref0_CopyObject o = some o := by
  unfold ref0_CopyObject
  rw [ref0_CopyLabels_eq _ h.1, ref0_CopyLabels_eq _ h.2]
  rfl
theorem ref0_CopyObjects_eq (l : List Object) (hn : l.length ≤ 300) (h : ∀ o ∈ l, OkLab o) : ref0_CopyObjects l = some l := by
  unfold ref0_CopyObjects
  rw [if_pos (by omega), rnd_app (fun j => el l j) l.length 0 [] (fun j s' _ hj hs => by
    unfold ref0_CopyObjects_0_s
    rw [ref0_CopyObject_eq _ (h _ (el_mem (by omega)))]
    simp only [optRes]
    rw [if_pos (fitL (by simp at hs ⊢; omega) (by decide))])]
  simp only [Res.opt, List.nil_append]
  rw [map_el]
/-- How many pods a deployment owns. -/
def own1 (d : ByteArray) (o : Object) : Bool := decide (o.Deploy = d) && !o.Ending
def ownN (d : ByteArray) (l : List Object) : Nat := l.countP (own1 d)
theorem Owned_val (f : Fleet) (d : ByteArray) (h : f.Pods.length ≤ 1000) : rules_Owned f d = some ((ownN d f.Pods : Nat) : Int) := by
  unfold rules_Owned
  rw [if_pos (by omega)]
  obtain ⟨s, e, hs⟩ := rnd_inv (step := rules_Owned_0_s f d) (I := fun j s => s = ((ownN d (f.Pods.take j) : Nat) : Int)) f.Pods.length 0 (0 : Int) rfl (fun j s _ hj hs => by
    have hj : j < f.Pods.length := by omega
    have ht : f.Pods.take (j + 1) = f.Pods.take j ++ [el f.Pods j] := by rw [List.take_succ_eq_append_getElem hj, el_at hj]
    have hle : ownN d (f.Pods.take j) ≤ 1000 := Nat.le_trans List.countP_le_length (by simp; omega)
    have hst : rules_Owned_0_s f d j s = .go (bif own1 d (el f.Pods j) then IntKind.i64.wrap (s + 1) else s) := by
      unfold rules_Owned_0_s own1
      cases decide ((el f.Pods j).Deploy = d) <;> cases (el f.Pods j).Ending <;> rfl
    have hn : ownN d (f.Pods.take (j + 1)) = ownN d (f.Pods.take j) + (bif own1 d (el f.Pods j) then 1 else 0) := by
      rw [ht]
      unfold ownN
      rw [List.countP_append, List.countP_singleton]
      cases own1 d (el f.Pods j) <;> rfl
    refine ⟨_, hst, ?_⟩
    rw [hn, hs]
    cases own1 d (el f.Pods j) with
    | true =>
      simp only [cond_true]
      rw [i64_small (by omega)]
      omega
    | false => rfl)
  rw [e]
  simp only [Nat.zero_add, List.take_length] at hs
  rw [hs]
  rfl
theorem at_val (l : List Object) (n : ByteArray) (h : l.length ≤ 1000) : (law16_at l n = some (-1) ∧ ∀ j, j < l.length → decide ((el l j).Name = n) = false) ∨ ∃ j, j < l.length ∧ law16_at l n = some ((j : Nat) : Int) ∧ (el l j).Name = n ∧ ∀ q, q < j → decide ((el l q).Name = n) = false := by
  unfold law16_at
  rw [if_pos (by omega)]
  rcases rnd_find (p := fun j => decide ((el l j).Name = n)) (step := law16_at_0_s l n) l.length 0 (fun j _ _ => rfl) with ⟨e, h2⟩ | ⟨j, _, hj, e, h2, h3⟩
  · exact .inl ⟨by rw [e]; rfl, fun j hj => h2 j (Nat.zero_le _) (by omega)⟩
  · exact .inr ⟨j, by omega, by rw [e]; rfl, of_decide_eq_true h2, fun q hq => h3 q (Nat.zero_le _) hq⟩
def clampQ (n : Int) : Int := min (max n (-1125899906842624)) 1125899906842624
theorem spawn_val (f : Fleet) (pod : Object) (hd : f.Deploys.length ≤ 300) (hp : f.Pods.length ≤ 300) : (∃ a, rules_Spawn f pod = some (.no a)) ∨
    ∃ j, j < f.Deploys.length ∧ rules_Spawn f pod = some .ok ∧ law16_at f.Deploys pod.Deploy = some ((j : Nat) : Int) ∧ ((ownN pod.Deploy f.Pods : Nat) : Int) < IntKind.i64.wrap (clampQ (el f.Deploys j).Count + clampQ (el f.Deploys j).Surge) := by
  unfold rules_Spawn law16_at
  rw [if_pos (by omega), if_pos (by omega)]
  have hsame : rules_Spawn_0_s f pod = law16_at_0_s f.Deploys pod.Deploy := rfl
  rw [hsame]
  rcases rnd_find (p := fun j => decide ((el f.Deploys j).Name = pod.Deploy)) (step := law16_at_0_s f.Deploys pod.Deploy) f.Deploys.length 0 (fun j _ _ => rfl) with ⟨e, h2⟩ | ⟨j, _, hj, e, h2, h3⟩
  · rw [e]
    exact .inl ⟨_, rfl⟩
  · rw [e]
    have hname : (el f.Deploys j).Name = pod.Deploy := of_decide_eq_true h2
    simp only [Res.opt]
    rw [show (decide (((j : Nat) : Int) < (0 : Int))) = false from decide_eq_false (by omega)]
    simp only [cond_false]
    rw [if_pos (by omega), Int.toNat_natCast, hname, Owned_val f _ (by omega)]
    simp only [Option.bind_some, rules_held]
    by_cases hle : IntKind.i64.wrap (clampQ (el f.Deploys j).Count + clampQ (el f.Deploys j).Surge) ≤ ((ownN pod.Deploy f.Pods : Nat) : Int)
    · exact .inl ⟨20, by rw [show decide (IntKind.i64.wrap (min (max (el f.Deploys j).Count (-1125899906842624)) 1125899906842624 + min (max (el f.Deploys j).Surge (-1125899906842624)) 1125899906842624) ≤ ((ownN pod.Deploy f.Pods : Nat) : Int)) = true from decide_eq_true hle]; rfl⟩
    · refine .inr ⟨j, by omega, ?_, rfl, by omega⟩
      rw [show decide (IntKind.i64.wrap (min (max (el f.Deploys j).Count (-1125899906842624)) 1125899906842624 + min (max (el f.Deploys j).Surge (-1125899906842624)) 1125899906842624) ≤ ((ownN pod.Deploy f.Pods : Nat) : Int)) = false from decide_eq_false hle]
      rfl
theorem pure_RulesSurge (f : Fleet) (pod : Object) (O0 : OkFleet f) (O1 : OkObject pod) : law16_RulesSurge f pod = some true := by
  unfold law16_RulesSurge
  rw [works_eq]
  simp only [Option.bind_some, cond_true]
  rcases big_cases f with h | ⟨h, hl⟩
  · rw [h]; rfl
  rw [h]
  have hf := okFl_of O0 hl
  have ho := okLab_of O1
  simp only [Option.bind_some, cond_false]
  rcases spawn_val f pod hf.d hf.p with ⟨a, e⟩ | ⟨j, hj, e, hat, hlt⟩
  · rw [e]; rfl
  · rw [e, hat]
    simp only [Option.bind_some, Er.elim]
    rw [show (decide (((j : Nat) : Int) < (0 : Int))) = false from decide_eq_false (by omega)]
    simp only [cond_false]
    rw [ref0_CopyObjects_eq _ hf.n hf.ln, ref0_CopyObjects_eq _ hf.p hf.lp, ref0_CopyObjects_eq _ hf.d hf.ld, ref0_CopyObjects_eq _ hf.b hf.lb, ref0_CopyObject_eq _ ho]
    simp only [Option.bind_some]
    have hp := hf.p
    have hcnt : ownN pod.Deploy (f.Pods ++ ([{ pod with Ending := false }] : List Object)) = ownN pod.Deploy f.Pods + 1 := by
      unfold ownN
      rw [List.countP_append, List.countP_singleton]
      simp [own1]
    have hle : ownN pod.Deploy f.Pods ≤ 300 := Nat.le_trans List.countP_le_length hp
    rw [if_pos (fitL (by simp; omega) (by decide)), Owned_val _ _ (by simp; omega), Owned_val f _ (by omega)]
    simp only [Option.bind_some, hcnt]
    rw [i64_small (n := ((ownN pod.Deploy f.Pods : Nat) : Int) + 1) (by omega), show decide (((ownN pod.Deploy f.Pods + 1 : Nat) : Int) = ((ownN pod.Deploy f.Pods : Nat) : Int) + 1) = true from decide_eq_true (by omega)]
    simp only [cond_true]
    rw [if_pos (by omega), Int.toNat_natCast]
    simp only [law16_held, Option.bind_some]
    exact congrArg some (decide_eq_true (by unfold clampQ at hlt; omega))
end Go.Proofs.Ytcchccdbkpidpaa.Ag
