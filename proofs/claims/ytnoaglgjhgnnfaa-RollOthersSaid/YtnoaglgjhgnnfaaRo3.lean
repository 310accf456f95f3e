/- RollOthers, in plain Lean. -/
import Derived.Test.YtnoaglgjhgnnfaaRo2
import Derived.Test.YtnoaglgjhgnnfaaAg4
set_option maxRecDepth 100000
set_option linter.unusedVariables false
set_option linter.unusedSimpArgs false
namespace Go.Proofs.Ytnoaglgjhgnnfaa.Ag
open Go Go.RowKit Go.Proofs.Ytnoaglgjhgnnfaa.Av Go.Proofs.Ytnoaglgjhgnnfaa.AvT Go.Proofs.Ytnoaglgjhgnnfaa.AvS

theorem el_mem' {l : List Object} {i : Nat} (h : i < l.length) : el l i ∈ l := by
  rw [el_at h]
  exact List.getElem_mem h
/-! Copies. -/
theorem CopyLabels_eq (l : List Label) (h : l.length * 32 ≤ 140737488351232) : ref0_CopyLabels l = some l := by
  unfold ref0_CopyLabels
  rw [if_pos (by omega), rnd_app (fun j => el l j) l.length 0 [] (fun j s' _ hj hs => by
    unfold ref0_CopyLabels_0_s
    rw [if_pos (fitL (by simp at hs ⊢; omega) (by decide))])]
  simp only [Res.opt, List.nil_append]
  rw [map_el]
theorem CopyObject_eq (o : Object) (h : OkLb o) : ref0_CopyObject o = some o := by
  unfold ref0_CopyObject
  rw [CopyLabels_eq _ h.1, CopyLabels_eq _ h.2]
  rfl
theorem CopyObjects_eq (l : List Object) (hn : l.length * 312 ≤ 140737488351232) (h : ∀ o ∈ l, OkLb o) : ref0_CopyObjects l = some l := by
  unfold ref0_CopyObjects
  rw [if_pos (by omega), rnd_app (fun j => el l j) l.length 0 [] (fun j s' _ hj hs => by
    unfold ref0_CopyObjects_0_s
    rw [CopyObject_eq _ (h _ (el_mem' (by omega)))]
    simp only [optRes]
    rw [if_pos (fitL (by simp at hs ⊢; omega) (by decide))])]
  simp only [Res.opt, List.nil_append]
  rw [map_el]
/-! The same as itself. -/
theorem SameLabels_refl (l : List Label) (h : l.length * 32 ≤ 140737488351232) : ref0_SameLabels l l = some true := by
  unfold ref0_SameLabels
  rw [decide_eq_true rfl, cond_true, if_pos (by omega), rnd_pass l.length 0 (fun j _ hj => by
    unfold ref0_SameLabels_0_s
    rw [if_pos (by omega), decide_eq_true rfl, decide_eq_true rfl]
    rfl)]
  rfl
theorem bare_refl (o : Object) : ref0_bare o o = some true := by
  unfold ref0_bare
  simp only [decide_true, cond_true, beq_self_eq_true, Bool.and_true, Bool.and_self]
theorem SameObject_refl (o : Object) (h : OkLb o) : ref0_SameObject o o = some true := by
  unfold ref0_SameObject
  rw [bare_refl]
  simp only [Option.bind_some, cond_true]
  rw [SameLabels_refl _ h.1]
  simp only [Option.bind_some, cond_true]
  rw [SameLabels_refl _ h.2]
  rfl
theorem SameRequest_refl (r : Request) (h : OkLb r.Object) : ref0_SameRequest r r = some true := by
  unfold ref0_SameRequest
  rw [SameObject_refl _ h]
  simp only [decide_true, cond_true, beq_self_eq_true, Option.bind_some]
theorem SameRequests_refl (l : List Request) (hl : l.length ≤ 100000) (h : ∀ r ∈ l, OkLb r.Object) : ref0_SameRequests l l = some true := by
  unfold ref0_SameRequests
  rw [decide_eq_true rfl, cond_true, if_pos (by omega), rnd_pass l.length 0 (fun j _ hj => by
    unfold ref0_SameRequests_0_s
    rw [if_pos (by omega), SameRequest_refl _ (h _ (by rw [el_at (by omega)]; exact List.getElem_mem _))]
    rfl)]
  rfl
/-! What is asked for lies well. -/
theorem sh_mem (pods : List Object) (dn nm : ByteArray) : ∀ (l : List Object) (a : Int) (r : Request), r ∈ shQ pods dn nm l a → ∃ o n, o ∈ l ∧ r = turnQ o n
  | [], a, r, h => by simp [shQ] at h
  | o :: l, a, r, h => by
    unfold shQ at h
    split at h
    · obtain ⟨o', n, ho, hr⟩ := sh_mem pods dn nm l a r h
      exact ⟨o', n, List.mem_cons_of_mem _ ho, hr⟩
    · split at h
      · rcases List.mem_cons.1 h with h | h
        · exact ⟨o, _, List.mem_cons_self, h⟩
        · obtain ⟨o', n, ho, hr⟩ := sh_mem pods dn nm l _ r h
          exact ⟨o', n, List.mem_cons_of_mem _ ho, hr⟩
      · obtain ⟨o', n, ho, hr⟩ := sh_mem pods dn nm l a r h
        exact ⟨o', n, List.mem_cons_of_mem _ ho, hr⟩
theorem sh_len (pods : List Object) (dn nm : ByteArray) : ∀ (l : List Object) (a : Int), (shQ pods dn nm l a).length ≤ l.length
  | [], a => by simp [shQ]
  | o :: l, a => by
    unfold shQ
    split
    · have := sh_len pods dn nm l a; simp; omega
    · split
      · have := sh_len pods dn nm l (a - max 0 (kQ pods dn o a - freeQ pods dn o)); simp; omega
      · have := sh_len pods dn nm l a; simp; omega
theorem oneQ_ok (pods : List Object) (d : Object) (s : List Object) (hd : OkLb d) (hs : ∀ o ∈ s, OkLb o) (hl : s.length ≤ 1000) : (oneQ pods d s).length ≤ 1000 ∧ ∀ r ∈ oneQ pods d s, OkLb r.Object := by
  have hel : 0 ≤ j0Q (nmQ d) s → OkLb (el s (j0Q (nmQ d) s).toNat) := fun h0 => by
    obtain ⟨_, hc⟩ := j0_spec (nmQ d) s (by omega)
    rcases hc with ⟨e, _⟩ | ⟨j, hj, e, _⟩
    · omega
    · exact hs _ (el_mem' (by omega))
  unfold oneQ
  split
  · exact ⟨by simp, fun r h => by simp at h⟩
  · split
    · rename_i h0
      have ho := hel h0
      split
      · unfold growQ
        split
        · exact ⟨by simp, fun r h => by simp at h; subst h; exact ho⟩
        · exact ⟨by simp, fun r h => by simp at h⟩
      · split
        · unfold cutQ
          split
          · exact ⟨by simp, fun r h => by simp at h; subst h; exact ho⟩
          · exact ⟨by simp, fun r h => by simp at h⟩
        · split
          · refine ⟨Nat.le_trans (sh_len _ _ _ _ _) hl, fun r h => ?_⟩
            obtain ⟨o, n, hm, rfl⟩ := sh_mem _ _ _ _ _ _ h
            exact hs o hm
          · refine ⟨by rw [List.length_map]; exact Nat.le_trans (List.length_filter_le _ _) hl, fun r h => ?_⟩
            obtain ⟨o, _, rfl⟩ := List.mem_map.1 h
            exact ⟨by simp [delQ], by simp [delQ]⟩
    · exact ⟨by simp, fun r h => by simp at h; subst h; exact ⟨hd.1, by simp [makeQ]⟩⟩
/-! Of a deployment's own. -/
theorem freeQ_own (d : Object) (pods : List Object) (o : Object) : freeQ (ownS d pods) d.Name o = freeQ pods d.Name o := by
  have h := cntQ_own d pods o.Name
  simp only [cntQ, Prod.mk.injEq] at h
  unfold freeQ
  rw [h.2.1, h.2.2]
theorem shQ_own (d : Object) (pods : List Object) (nm : ByteArray) : ∀ (l : List Object) (a : Int), shQ (ownS d pods) d.Name nm l a = shQ pods d.Name nm l a
  | [], a => rfl
  | o :: l, a => by
    unfold shQ kQ
    rw [freeQ_own, shQ_own d pods nm l, shQ_own d pods nm l]
theorem oneQ_own (d : Object) (pods s : List Object) : oneQ (ownS d pods) d s = oneQ pods d s := by
  unfold oneQ spareQ
  rw [shQ_own, rdQ_own]
  have : delP (ownS d pods) d.Name (nmQ d) = delP pods d.Name (nmQ d) := by
    funext o
    have h := cntQ_own d pods o.Name
    simp only [cntQ, Prod.mk.injEq] at h
    unfold delP
    rw [h.1]
  rw [this]
/-! Done. -/
def doneF (dn nm : ByteArray) (p : Object) (s : Int) : Res Int Bool :=
  optRes (bif (decide (p.Deploy = dn)) then (Option.bind (bif p.Ready then (bif p.Ending then (some true) else (some (!(decide (p.Set = nm))))) else (some true)) fun d119 => bif d119 then (some (Sum.inl () : Unit ⊕ Int)) else (some (.inr (IntKind.i64.wrap (s + (1 : Int)))))) else (some (.inr s))) (Sum.elim (fun d124 => .out false) (fun d128 => .go d128))
theorem doneF_live (dn nm : ByteArray) (p : Object) (s : Int) : doneF dn nm p s ≠ .die := by
  unfold doneF
  cases decide (p.Deploy = dn) <;> cases p.Ready <;> cases p.Ending <;> cases decide (p.Set = nm) <;> simp [optRes]
theorem done_live (dn nm : ByteArray) : ∀ (l : List Object) (s : Int), foldR (doneF dn nm) l s ≠ .die
  | [], s => by simp [foldR]
  | p :: l, s => by
    rw [foldR]
    have := doneF_live dn nm p s
    cases h : doneF dn nm p s with
    | go s' => exact done_live dn nm l s'
    | out r => simp
    | die => exact absurd h this
theorem done_own (d : Object) (nm : ByteArray) (l : List Object) (s : Int) : foldR (doneF d.Name nm) (ownS d l) s = foldR (doneF d.Name nm) l s := by
  unfold ownS
  refine fold_filter (fun a s h => ?_) l s
  unfold doneF
  rw [h]
  rfl
def odd2 (nm : ByteArray) (s : List Object) : Bool := match roll_Done_j2 nm s with
  | some b => b
  | none => false
theorem odd2_eq (nm : ByteArray) (s : List Object) (h : s.length ≤ 100000) : roll_Done_j2 nm s = some (odd2 nm s) ∧ (odd2 nm s = false → ∀ o ∈ s, o.Name = nm) := by
  have key : (roll_Done_j2 nm s = some false ∧ ∀ o ∈ s, o.Name = nm) ∨ roll_Done_j2 nm s = some true := by
    unfold roll_Done_j2
    rw [if_pos (by omega)]
    rcases rnd_find (p := fun j => !decide ((el s j).Name = nm)) (step := roll_Done_2_s s nm) s.length 0 (fun j _ _ => by
      unfold roll_Done_2_s
      cases decide ((el s j).Name = nm) <;> rfl) with ⟨e, h2⟩ | ⟨j, _, hj, e, h2, h3⟩
    · refine .inl ⟨by rw [e]; rfl, fun o ho => ?_⟩
      obtain ⟨j, hj, rfl⟩ := List.getElem_of_mem ho
      have := h2 j (Nat.zero_le _) (by omega)
      rw [el_at hj] at this
      simpa using this
    · refine .inr ?_
      rw [e]
      simp only [Res.opt]
      rw [decide_eq_true (by omega)]
  rcases key with ⟨e, hn⟩ | e
  · have : odd2 nm s = false := by unfold odd2; rw [e]
    rw [this]
    exact ⟨e, fun _ => hn⟩
  · have : odd2 nm s = true := by unfold odd2; rw [e]
    rw [this]
    exact ⟨e, fun h => by cases h⟩
def doneQ (pods : List Object) (d : Object) (s : List Object) : Bool :=
  if j0Q (nmQ d) s < 0 then false else if heldQ (el s (j0Q (nmQ d) s).toNat).Count ≠ heldQ d.Count then false else if odd2 (nmQ d) s = true then false else
  match foldR (doneF d.Name (nmQ d)) pods 0 with
  | .go n => decide (n = heldQ d.Count)
  | .out b => b
  | .die => false
theorem doneQ_own (d : Object) (pods s : List Object) : doneQ (ownS d pods) d s = doneQ pods d s := by
  unfold doneQ
  rw [done_own]
theorem Done_eq (ff : Fleet) (d : Object) (sets : List Object) (hd : OkObject d) (hp : ff.Pods.length ≤ 100000) (hs : sets.length ≤ 1000) : roll_Done ff d sets = some (doneQ ff.Pods d (ownS d sets)) := by
  unfold roll_Done doneQ
  obtain ⟨hsn, htm⟩ := setName_eq hd
  rw [hsn]
  simp only [Option.bind_some]
  rw [if_pos (by omega), own_go (roll_Done_0_s sets d) sets d.Name (by omega) (fun i s => rfl)]
  simp only [Res.opt]
  have e1 : (List.filter (fun s => decide (s.Deploy = d.Name)) sets) = ownS d sets := rfl
  have e2 : (d.Name ++ (⟨#[45]⟩ : ByteArray) ++ txQ (tmQ d)) = nmQ d := rfl
  rw [e1, e2]
  have hl : (ownS d sets).length ≤ 1000 := Nat.le_trans (ownS_len d sets) hs
  generalize ownS d sets = s at hl
  obtain ⟨hj, hc⟩ := j0_spec (nmQ d) s (by omega)
  have hj' : roll_Done_j0 (nmQ d) s = some (j0Q (nmQ d) s) := hj
  rw [hj']
  simp only [Option.bind_some]
  unfold roll_Done_j1
  by_cases h0 : j0Q (nmQ d) s < 0
  · rw [decide_eq_true h0, if_pos h0]
    rfl
  · rw [decide_eq_false h0, if_neg h0, cond_false]
    have hb : 0 ≤ j0Q (nmQ d) s ∧ j0Q (nmQ d) s < (s.length : Int) := by
      rcases hc with ⟨e, _⟩ | ⟨j, hj, e, _⟩
      · omega
      · omega
    rw [if_pos hb]
    simp only [held_eq, Option.bind_some]
    by_cases h1 : heldQ (el s (j0Q (nmQ d) s).toNat).Count = heldQ d.Count
    · rw [decide_eq_true h1, if_neg (show ¬ (heldQ (el s (j0Q (nmQ d) s).toNat).Count ≠ heldQ d.Count) from fun q => q h1)]
      obtain ⟨ho, _⟩ := odd2_eq (nmQ d) s (by omega)
      rw [ho]
      simp only [Bool.not_true, cond_false, Option.bind_some]
      cases odd2 (nmQ d) s with
      | true => rfl
      | false =>
        rw [cond_false, if_neg (show ¬ (false = true) by decide), if_pos (show ff.Pods.length ≤ 9223372036854775807 by omega)]
        have e : roll_Done_3_s ff d (nmQ d) = fun k st => doneF d.Name (nmQ d) (el ff.Pods k) st := rfl
        rw [e, rnd_fold]
        have hlv := done_live d.Name (nmQ d) ff.Pods 0
        cases hf : foldR (doneF d.Name (nmQ d)) ff.Pods 0 with
        | go n => rfl
        | out b => rfl
        | die => exact absurd hf hlv
    · rw [decide_eq_false h1, if_pos (show heldQ (el s (j0Q (nmQ d) s).toNat).Count ≠ heldQ d.Count from h1)]
      rfl
theorem big_cases (ff : Fleet) (sets : List Object) : law26_big ff sets = some true ∨ (law26_big ff sets = some false ∧ ff.Pods.length ≤ 200 ∧ ff.Deploys.length ≤ 50 ∧ sets.length ≤ 100) := by
  unfold law26_big
  by_cases h1 : (200 : Int) < ((ff.Pods.length : Nat) : Int)
  · rw [decide_eq_true h1]; exact .inl rfl
  · rw [decide_eq_false h1, cond_false]
    by_cases h2 : (50 : Int) < ((ff.Deploys.length : Nat) : Int)
    · rw [decide_eq_true h2]; exact .inl rfl
    · rw [decide_eq_false h2, cond_false]
      by_cases h3 : (100 : Int) < ((sets.length : Nat) : Int)
      · rw [decide_eq_true h3]; exact .inl rfl
      · rw [decide_eq_false h3]; exact .inr ⟨rfl, by omega, by omega, by omega⟩
theorem pure_RollOthers (ff : Fleet) (d : Object) (sets : List Object) (O0 : OkFleet ff) (O1 : OkObject d) (O2 : sets.length * 312 ≤ 140737488351232 ∧ sets.length ≤ 9223372036854775807 ∧ ∀ x ∈ sets, OkObject x) : law26_RollOthers ff d sets = some true := by
  unfold law26_RollOthers law26_RollOthers_j0 law26_works
  simp only [Option.bind_some, cond_true]
  rcases big_cases ff sets with h | ⟨h, hp, hdl, hs⟩
  · rw [h]; rfl
  rw [h]
  obtain ⟨F0, F1, F2, F3⟩ := O0
  have ok : ∀ o ∈ sets, OkLb o := fun o ho => okLb_of (O2.2.2 o ho)
  simp only [Option.bind_some, cond_false]
  rw [CopyObjects_eq _ F0.1 fun o ho => okLb_of (F0.2.2 o ho), CopyObjects_eq _ F1.1 fun o ho => okLb_of (F1.2.2 o ho), CopyObjects_eq _ F2.1 fun o ho => okLb_of (F2.2.2 o ho), CopyObjects_eq _ F3.1 fun o ho => okLb_of (F3.2.2 o ho)]
  simp only [Option.bind_some]
  rw [if_pos (by omega), own_go (law26_RollOthers_0_s ff d) ff.Pods d.Name (by omega) (fun i s => rfl)]
  simp only [Res.opt]
  rw [if_pos (by omega), own_go (law26_RollOthers_1_s sets d) sets d.Name (by omega) (fun i s => rfl)]
  simp only []
  have e1 : (List.filter (fun s => decide (s.Deploy = d.Name)) sets) = ownS d sets := rfl
  have e2 : (List.filter (fun s => decide (s.Deploy = d.Name)) ff.Pods) = ownS d ff.Pods := rfl
  rw [e1, e2, One_eq ff d sets O1 (by omega) (by omega) ok]
  have l1 := ownS_len d sets
  have l2 := ownS_len d ff.Pods
  rw [One_eq ⟨[], ownS d ff.Pods, [], ff.Budgets⟩ d (ownS d sets) O1 (show (ownS d ff.Pods).length ≤ 100000 by omega) (by omega) fun o ho => ok o (ownS_mem ho).1]
  simp only [Option.bind_some]
  rw [ownS_own, oneQ_own]
  obtain ⟨k1, k2⟩ := oneQ_ok ff.Pods d (ownS d sets) (okLb_of O1) (fun o ho => ok o (ownS_mem ho).1) (by omega)
  rw [SameRequests_refl _ (by omega) k2]
  simp only [Option.bind_some, cond_true]
  rw [Done_eq ff d sets O1 (by omega) (by omega), Done_eq ⟨[], ownS d ff.Pods, [], ff.Budgets⟩ d (ownS d sets) O1 (show (ownS d ff.Pods).length ≤ 100000 by omega) (by omega)]
  simp only [Option.bind_some]
  rw [ownS_own, doneQ_own]
  simp
end Go.Proofs.Ytnoaglgjhgnnfaa.Ag
