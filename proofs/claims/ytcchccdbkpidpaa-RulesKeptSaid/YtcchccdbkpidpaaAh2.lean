/- Lent things are the same with marks behind their lists' ends; they were kept. -/
import Derived.Test.YtcchccdbkpidpaaAg2
set_option maxRecDepth 100000
set_option linter.unusedVariables false
set_option linter.unusedSimpArgs false
namespace Go.Proofs.Ytcchccdbkpidpaa.Ag
open Go Go.RowKit Go.Proofs.Ytcchccdbkpidpaa.Av Go.Proofs.Ytcchccdbkpidpaa.AvT Go.Proofs.Ytcchccdbkpidpaa.AvS

theorem kit_LentLabels_eq (l : List Label) (h : l.length ≤ 4398046511000) : kit_LentLabels l = some l := by
  unfold kit_LentLabels
  rw [if_pos h]
theorem kit_KeptLabels_eq (l : List Label) (h : l.length ≤ 4398046511000) : kit_KeptLabels marksLabel l l = some true := by
  have hl : (l ++ marksLabel).length = l.length + 16 := by rw [List.length_append, marksLabel_len]
  unfold kit_KeptLabels
  rw [i64_small (by omega), hl]
  simp only [decide_true, cond_true]
  rw [if_pos (by omega), List.take_of_length_le (by rw [hl]; omega), kit_KeptFullLabels_eq l h]
  rfl
/-- Labels few enough. -/
def OkLab (o : Object) : Prop := o.Labels.length ≤ 4398046511000 ∧ o.Select.length ≤ 4398046511000
theorem kit_LentObject_eq (o : Object) (h : OkLab o) : kit_LentObject o = some o := by
  unfold kit_LentObject
  rw [kit_LentLabels_eq _ h.1, kit_LentLabels_eq _ h.2]
  rfl
theorem kit_LentObjects_eq (l : List Object) (hn : l.length ≤ 300) (h : ∀ o ∈ l, OkLab o) : kit_LentObjects l = some l := by
  unfold kit_LentObjects
  rw [if_pos (by omega), rnd_app (fun j => el l j) l.length 0 [] (fun j s' _ hj hs => by
    unfold kit_LentObjects_0_s
    rw [kit_LentObject_eq _ (h _ (el_mem (by omega)))]
    simp only [optRes]
    rw [if_pos (fitL (by simp at hs ⊢; omega) (by decide))])]
  simp only [Res.opt, List.nil_append]
  rw [map_el]
theorem ref0_SameLabels_eq (l : List Label) (h : l.length ≤ 4398046511000) : ref0_SameLabels l l = some true := by
  unfold ref0_SameLabels
  simp only [decide_true, cond_true]
  rw [if_pos (by omega), rnd_pass l.length 0 (fun j _ hj => by
    unfold ref0_SameLabels_0_s
    rw [if_pos (by omega)]
    simp)]
  rfl
theorem ref0_bare_eq (o : Object) : ref0_bare o o = some true := by
  unfold ref0_bare
  simp
theorem ref0_SameObject_eq (o : Object) (h : OkLab o) : ref0_SameObject o o = some true := by
  unfold ref0_SameObject
  rw [ref0_bare_eq, ref0_SameLabels_eq _ h.1, ref0_SameLabels_eq _ h.2]
  rfl
theorem kit_KeptObject_eq (o : Object) (h : OkLab o) : kit_KeptObject marksLabel o o = some true := by
  unfold kit_KeptObject
  rw [ref0_SameObject_eq _ h, kit_KeptLabels_eq _ h.1, kit_KeptLabels_eq _ h.2]
  rfl
theorem kit_KeptObjects_eq (l : List Object) (hn : l.length ≤ 300) (h : ∀ o ∈ l, OkLab o) : kit_KeptObjects marksLabel l l = some true := by
  unfold kit_KeptObjects
  simp only [decide_true, cond_true]
  rw [if_pos (by omega), rnd_pass l.length 0 (fun j _ hj => by
    unfold kit_KeptObjects_0_s
    rw [if_pos (by omega), kit_KeptObject_eq _ (h _ (el_mem (by omega)))]
    rfl)]
  rfl
/-- A fleet that is not too big. -/
structure OkFl (f : Fleet) : Prop where
  n : f.Nodes.length ≤ 300
  p : f.Pods.length ≤ 300
  d : f.Deploys.length ≤ 300
  b : f.Budgets.length ≤ 300
  ln : ∀ o ∈ f.Nodes, OkLab o
  lp : ∀ o ∈ f.Pods, OkLab o
  ld : ∀ o ∈ f.Deploys, OkLab o
  lb : ∀ o ∈ f.Budgets, OkLab o
theorem kit_LentFleet_eq (f : Fleet) (h : OkFl f) : kit_LentFleet f = some f := by
  unfold kit_LentFleet
  rw [kit_LentObjects_eq _ h.n h.ln, kit_LentObjects_eq _ h.p h.lp, kit_LentObjects_eq _ h.d h.ld, kit_LentObjects_eq _ h.b h.lb]
  rfl
theorem kit_KeptFleet_eq (f : Fleet) (h : OkFl f) : kit_KeptFleet marksLabel f f = some true := by
  unfold kit_KeptFleet
  rw [kit_KeptObjects_eq _ h.n h.ln, kit_KeptObjects_eq _ h.p h.lp, kit_KeptObjects_eq _ h.d h.ld, kit_KeptObjects_eq _ h.b h.lb]
  rfl
theorem okLab_of {o : Object} (h : OkObject o) : OkLab o := by
  unfold OkObject at h
  obtain ⟨_, _, _, _, ⟨h1, _⟩, _, _, _, _, _, _, _, _, _, _, _, _, _, _, _, _, _, _, _, _, ⟨h2, _⟩, _⟩ := h
  exact ⟨by omega, by omega⟩
end Go.Proofs.Ytcchccdbkpidpaa.Ag
