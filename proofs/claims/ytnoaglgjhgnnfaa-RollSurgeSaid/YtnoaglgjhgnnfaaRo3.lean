/- RollOthers, in plain Lean. -/
import Derived.Test.YtnoaglgjhgnnfaaRo2
import Derived.Test.YtnoaglgjhgnnfaaAg4
set_option maxRecDepth 100000
set_option linter.unusedVariables false
set_option linter.unusedSimpArgs false
namespace Go.Proofs.Ytnoaglgjhgnnfaa.Ag
open Go Go.RowKit Go.Proofs.Ytnoaglgjhgnnfaa.Av Go.Proofs.Ytnoaglgjhgnnfaa.AvT Go.Proofs.Ytnoaglgjhgnnfaa.AvS

theorem el_mem' {l : List Object} {i : Nat} (h : i < l.length) : el l i ∈ l := by
  rw [el_at h]
  exact List.getElem_mem h
/-! Copies. -/
theorem CopyLabels_eq (l : List Label) (h : l.length * 32 ≤ 140737488351232) : ref0_CopyLabels l = some l := by
  unfold ref0_CopyLabels
  rw [if_pos (by omega), rnd_app (fun j => el l j) l.length 0 [] (fun j s' _ hj hs => by
    unfold ref0_CopyLabels_0_s
    rw [if_pos (fitL (by simp at hs ⊢; omega) (by decide))])]
  simp only [Res.opt, List.nil_append]
  rw [map_el]
theorem CopyObject_eq (o : Object) (h : OkLb o) : ref0_CopyObject o = some o := by
  unfold ref0_CopyObject
  rw [CopyLabels_eq _ h.1, CopyLabels_eq _ h.2]
  rfl
theorem CopyObjects_eq (l : List Object) (hn : l.length * 312 ≤ 140737488351232) (h : ∀ o ∈ l, OkLb o) : ref0_CopyObjects l = some l := by
  unfold ref0_CopyObjects
  rw [if_pos (by omega), rnd_app (fun j => el l j) l.length 0 [] (fun j s' _ hj hs => by
    unfold ref0_CopyObjects_0_s
    rw [CopyObject_eq _ (h _ (el_mem' (by omega)))]
    simp only [optRes]
    rw [if_pos (fitL (by simp at hs ⊢; omega) (by decide))])]
  simp only [Res.opt, List.nil_append]
  rw [map_el]
/-! The same as itself. -/
/-! What is asked for lies well. -/
theorem sh_mem (pods : List Object) (dn nm : ByteArray) : ∀ (l : List Object) (a : Int) (r : Request), r ∈ shQ pods dn nm l a → ∃ o n, o ∈ l ∧ r = turnQ o n
  | [], a, r, h => by simp [shQ] at h
  | o :: l, a, r, h => by
    unfold shQ at h
    split at h
    · obtain ⟨o', n, ho, hr⟩ := sh_mem pods dn nm l a r h
      exact ⟨o', n, List.mem_cons_of_mem _ ho, hr⟩
    · split at h
      · rcases List.mem_cons.1 h with h | h
        · exact ⟨o, _, List.mem_cons_self, h⟩
        · obtain ⟨o', n, ho, hr⟩ := sh_mem pods dn nm l _ r h
          exact ⟨o', n, List.mem_cons_of_mem _ ho, hr⟩
      · obtain ⟨o', n, ho, hr⟩ := sh_mem pods dn nm l a r h
        exact ⟨o', n, List.mem_cons_of_mem _ ho, hr⟩
theorem sh_len (pods : List Object) (dn nm : ByteArray) : ∀ (l : List Object) (a : Int), (shQ pods dn nm l a).length ≤ l.length
  | [], a => by simp [shQ]
  | o :: l, a => by
    unfold shQ
    split
    · have := sh_len pods dn nm l a; simp; omega
    · split
      · have := sh_len pods dn nm l (a - max 0 (kQ pods dn o a - freeQ pods dn o)); simp; omega
      · have := sh_len pods dn nm l a; simp; omega
theorem oneQ_ok (pods : List Object) (d : Object) (s : List Object) (hd : OkLb d) (hs : ∀ o ∈ s, OkLb o) (hl : s.length ≤ 1000) : (oneQ pods d s).length ≤ 1000 ∧ ∀ r ∈ oneQ pods d s, OkLb r.Object := by
  have hel : 0 ≤ j0Q (nmQ d) s → OkLb (el s (j0Q (nmQ d) s).toNat) := fun h0 => by
    obtain ⟨_, hc⟩ := j0_spec (nmQ d) s (by omega)
    rcases hc with ⟨e, _⟩ | ⟨j, hj, e, _⟩
    · omega
    · exact hs _ (el_mem' (by omega))
  unfold oneQ
  split
  · exact ⟨by simp, fun r h => by simp at h⟩
  · split
    · rename_i h0
      have ho := hel h0
      split
      · unfold growQ
        split
        · exact ⟨by simp, fun r h => by simp at h; subst h; exact ho⟩
        · exact ⟨by simp, fun r h => by simp at h⟩
      · split
        · unfold cutQ
          split
          · exact ⟨by simp, fun r h => by simp at h; subst h; exact ho⟩
          · exact ⟨by simp, fun r h => by simp at h⟩
        · split
          · refine ⟨Nat.le_trans (sh_len _ _ _ _ _) hl, fun r h => ?_⟩
            obtain ⟨o, n, hm, rfl⟩ := sh_mem _ _ _ _ _ _ h
            exact hs o hm
          · refine ⟨by rw [List.length_map]; exact Nat.le_trans (List.length_filter_le _ _) hl, fun r h => ?_⟩
            obtain ⟨o, _, rfl⟩ := List.mem_map.1 h
            exact ⟨by simp [delQ], by simp [delQ]⟩
    · exact ⟨by simp, fun r h => by simp at h; subst h; exact ⟨hd.1, by simp [makeQ]⟩⟩
/-! Of a deployment's own. -/
/-! Done. -/
theorem big_cases (ff : Fleet) (sets : List Object) : law26_big ff sets = some true ∨ (law26_big ff sets = some false ∧ ff.Pods.length ≤ 200 ∧ ff.Deploys.length ≤ 50 ∧ sets.length ≤ 100) := by
  unfold law26_big
  by_cases h1 : (200 : Int) < ((ff.Pods.length : Nat) : Int)
  · rw [decide_eq_true h1]; exact .inl rfl
  · rw [decide_eq_false h1, cond_false]
    by_cases h2 : (50 : Int) < ((ff.Deploys.length : Nat) : Int)
    · rw [decide_eq_true h2]; exact .inl rfl
    · rw [decide_eq_false h2, cond_false]
      by_cases h3 : (100 : Int) < ((sets.length : Nat) : Int)
      · rw [decide_eq_true h3]; exact .inl rfl
      · rw [decide_eq_false h3]; exact .inr ⟨rfl, by omega, by omega, by omega⟩
end Go.Proofs.Ytnoaglgjhgnnfaa.Ag
