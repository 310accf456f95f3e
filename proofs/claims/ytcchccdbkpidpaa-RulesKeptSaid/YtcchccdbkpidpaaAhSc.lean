/- Soundness in plain Lean. -/
import Derived.Test.YtcchccdbkpidpaaAhCo
set_option maxRecDepth 100000
set_option linter.unusedVariables false
set_option linter.unusedSimpArgs false
namespace Go.Proofs.Ytcchccdbkpidpaa.Ag
open Go Go.RowKit Go.Proofs.Ytcchccdbkpidpaa.Av Go.Proofs.Ytcchccdbkpidpaa.AvT Go.Proofs.Ytcchccdbkpidpaa.AvS

theorem works_eq : law16_works = some true := by kernel_rfl
theorem ref0_CopyLabels_eq (l : List Label) (h : l.length ≤ 4398046511000) : ref0_CopyLabels l = some l := by
  unfold ref0_CopyLabels
  rw [if_pos (by omega), rnd_app (fun j => el l j) l.length 0 [] (fun j s' _ hj hs => by
    unfold ref0_CopyLabels_0_s
    rw [if_pos (fitL (by simp at hs ⊢; omega) (by decide))])]
  simp only [Res.opt, List.nil_append]
  rw [map_el]
theorem ref0_CopyObject_eq (o : Object) (h : OkLab o) : ref0_CopyObject o = some o := by
  unfold ref0_CopyObject
  rw [ref0_CopyLabels_eq _ h.1, ref0_CopyLabels_eq _ h.2]
  rfl
theorem ref0_CopyObjects_eq (l : List Object) (hn : l.length ≤ 300) (h : ∀ o ∈ l, OkLab o) : ref0_CopyObjects l = some l := by
  unfold ref0_CopyObjects
  rw [if_pos (by omega), rnd_app (fun j => el l j) l.length 0 [] (fun j s' _ hj hs => by
    unfold ref0_CopyObjects_0_s
    rw [ref0_CopyObject_eq _ (h _ (el_mem (by omega)))]
    simp only [optRes]
    rw [if_pos (fitL (by simp at hs ⊢; omega) (by decide))])]
  simp only [Res.opt, List.nil_append]
  rw [map_el]
theorem at_val (l : List Object) (n : ByteArray) (h : l.length ≤ 1000) : (law16_at l n = some (-1) ∧ ∀ j, j < l.length → decide ((el l j).Name = n) = false) ∨ ∃ j, j < l.length ∧ law16_at l n = some ((j : Nat) : Int) ∧ (el l j).Name = n ∧ ∀ q, q < j → decide ((el l q).Name = n) = false := by
  unfold law16_at
  rw [if_pos (by omega)]
  rcases rnd_find (p := fun j => decide ((el l j).Name = n)) (step := law16_at_0_s l n) l.length 0 (fun j _ _ => rfl) with ⟨e, h2⟩ | ⟨j, _, hj, e, h2, h3⟩
  · exact .inl ⟨by rw [e]; rfl, fun j hj => h2 j (Nat.zero_le _) (by omega)⟩
  · exact .inr ⟨j, by omega, by rw [e]; rfl, of_decide_eq_true h2, fun q hq => h3 q (Nat.zero_le _) hq⟩
def clampQ (n : Int) : Int := min (max n (-1125899906842624)) 1125899906842624
/-- Is the first node of a name lost? -/
def lostQ (l : List Object) (name : ByteArray) : Option Bool := match rndN (law16_at_0_s l name) l.length 0 () with
  | .out d => some (el l d.toNat).Lost
  | _ => none
def podB (lost : Option Bool) (o : Object) : Bool :=
  bif o.Ready then (bif o.Ending then false else bif decide (o.Phase = 1) then (bif decide (o.Node = (⟨#[]⟩ : ByteArray)) then false else match lost with | none => false | some l => !l) else false)
  else bif decide (o.Phase = 1) then (bif decide (o.Node = (⟨#[]⟩ : ByteArray)) then false else lost.isSome) else (bif decide (o.Node = (⟨#[]⟩ : ByteArray)) then true else lost.isSome)
theorem sound0 (f : Fleet) (i : Nat) (hn : f.Nodes.length ≤ 1000) : (rules_Sound_0_s f i () = .go () ∧ podB (lostQ f.Nodes (el f.Pods i).Node) (el f.Pods i) = true) ∨ ∃ a, rules_Sound_0_s f i () = .out (.at a (i : Int)) ∧ podB (lostQ f.Nodes (el f.Pods i).Node) (el f.Pods i) = false := by
  have e1 : rules_Sound_1_s f i = law16_at_0_s f.Nodes (el f.Pods i).Node := rfl
  have e2 : rules_Sound_2_s f i = law16_at_0_s f.Nodes (el f.Pods i).Node := rfl
  have e3 : rules_Sound_3_s f i = law16_at_0_s f.Nodes (el f.Pods i).Node := rfl
  unfold rules_Sound_0_s
  rw [if_pos (by omega), if_pos (by omega), if_pos (by omega), e1, e2, e3]
  generalize el f.Pods i = o
  rcases rnd_find (p := fun j => decide ((el f.Nodes j).Name = o.Node)) (step := law16_at_0_s f.Nodes o.Node) f.Nodes.length 0 (fun j _ _ => rfl) with ⟨e, h2⟩ | ⟨j, _, hj, e, h2, h3⟩
  · have hl : lostQ f.Nodes o.Node = none := by unfold lostQ; rw [e]
    rw [e, hl]
    unfold podB
    cases o.Ready <;> cases o.Ending <;> cases decide (o.Phase = 1) <;> cases decide (o.Node = (⟨#[]⟩ : ByteArray)) <;> simp [Res.res]
  · have hl : lostQ f.Nodes o.Node = some (el f.Nodes j).Lost := by unfold lostQ; rw [e]; rfl
    have hjl : j < f.Nodes.length := by omega
    rw [e, hl]
    simp only [Res.res]
    rw [show (decide (((j : Nat) : Int) < (0 : Int))) = false from decide_eq_false (by omega)]
    simp only [cond_false]
    rw [if_pos (by omega), Int.toNat_natCast]
    unfold podB
    cases o.Ready <;> cases o.Ending <;> cases decide (o.Phase = 1) <;> cases decide (o.Node = (⟨#[]⟩ : ByteArray)) <;> cases (el f.Nodes j).Lost <;> simp [hjl]
/-- What an amount counts. -/
def cq (n : Int) : Int := max (clampQ n) 0
theorem cq_in (n : Int) : 0 ≤ cq n ∧ cq n ≤ 1125899906842624 := by unfold cq clampQ; omega
def needs (g : Object → Int) (node : ByteArray) : List Object → Int
  | [] => 0
  | o :: l => (bif decide (o.Node = node) then cq (g o) else 0) + needs g node l
theorem needs_nonneg (g : Object → Int) (node : ByteArray) : ∀ l : List Object, 0 ≤ needs g node l
  | [] => by simp [needs]
  | o :: l => by
    have := needs_nonneg g node l
    have := cq_in (g o)
    simp only [needs]
    cases decide (o.Node = node) <;> simp <;> omega
theorem needs_app (g : Object → Int) (node : ByteArray) : ∀ l m : List Object, needs g node (l ++ m) = needs g node l + needs g node m
  | [], m => by simp [needs]
  | o :: l, m => by simp only [List.cons_append, needs, needs_app g node l m]; omega
theorem needs_set (g : Object → Int) (node : ByteArray) (x : Object) : ∀ (l : List Object) (j : Nat), j < l.length → needs g node (l.set j x) = needs g node l - (bif decide ((el l j).Node = node) then cq (g (el l j)) else 0) + (bif decide (x.Node = node) then cq (g x) else 0)
  | [], j, h => by simp at h
  | o :: l, 0, h => by simp only [List.set_cons_zero, needs]; have : el (o :: l) 0 = o := rfl; rw [this]; omega
  | o :: l, j + 1, h => by
    simp only [List.set_cons_succ, needs]
    rw [needs_set g node x l j (by simpa using h)]
    have : el (o :: l) (j + 1) = el l j := rfl
    rw [this]
    omega
def topQ (n : Int) : Int := min n 1125899906842624
theorem Used_val (f : Fleet) (node : ByteArray) (h : f.Pods.length ≤ 1000) : rules_Used f node = some (bif decide (node = (⟨#[]⟩ : ByteArray)) then ⟨0, 0⟩ else ⟨topQ (needs (·.Need.Cpu) node f.Pods), topQ (needs (·.Need.Mem) node f.Pods)⟩) := by
  unfold rules_Used
  rw [if_pos (by omega)]
  cases hz : decide (node = (⟨#[]⟩ : ByteArray)) with
  | true =>
    rw [rnd_pass (step := rules_Used_0_s node f) (s := ((0 : Int), (0 : Int))) f.Pods.length 0 (fun j _ _ => by unfold rules_Used_0_s; rw [hz]; rfl)]
    rfl
  | false =>
    obtain ⟨s, e, hs⟩ := rnd_inv (step := rules_Used_0_s node f) (I := fun j s => s = (topQ (needs (·.Need.Cpu) node (f.Pods.take j)), topQ (needs (·.Need.Mem) node (f.Pods.take j)))) f.Pods.length 0 ((0 : Int), (0 : Int)) rfl (fun j s _ hj hs => by
      have hj : j < f.Pods.length := by omega
      have ht : f.Pods.take (j + 1) = f.Pods.take j ++ [el f.Pods j] := by rw [List.take_succ_eq_append_getElem hj, el_at hj]
      have h1 := needs_nonneg (·.Need.Cpu) node (f.Pods.take j)
      have h2 := needs_nonneg (·.Need.Mem) node (f.Pods.take j)
      rw [ht, needs_app, needs_app]
      generalize needs (·.Need.Cpu) node (f.Pods.take j) = A at *
      generalize needs (·.Need.Mem) node (f.Pods.take j) = B at *
      subst hs
      unfold rules_Used_0_s
      rw [hz]
      simp only [cond_false, needs]
      cases decide ((el f.Pods j).Node = node) with
      | false => exact ⟨_, rfl, by simp⟩
      | true =>
        have c1 := cq_in (el f.Pods j).Need.Cpu
        have c2 := cq_in (el f.Pods j).Need.Mem
        refine ⟨_, rfl, ?_⟩
        show (min (IntKind.i64.wrap (topQ A + cq (el f.Pods j).Need.Cpu)) 1125899906842624, min (IntKind.i64.wrap (topQ B + cq (el f.Pods j).Need.Mem)) 1125899906842624) = _
        rw [i64_small (by unfold topQ; omega), i64_small (by unfold topQ; omega)]
        simp only [cond_true]
        unfold topQ
        congr 1 <;> omega)
    rw [e]
    simp only [Nat.zero_add, List.take_length] at hs
    rw [hs]
    rfl
def usedA (f : Fleet) (node : ByteArray) : Amount := bif decide (node = (⟨#[]⟩ : ByteArray)) then ⟨0, 0⟩ else ⟨topQ (needs (·.Need.Cpu) node f.Pods), topQ (needs (·.Need.Mem) node f.Pods)⟩
def fitB (a r : Amount) : Bool := decide (a.Cpu ≤ r.Cpu) && decide (a.Mem ≤ r.Mem)
theorem fits_val (a r : Amount) : amount_Fits a r = some (fitB a r) := by
  unfold amount_Fits fitB
  cases decide (a.Cpu ≤ r.Cpu) <;> rfl
theorem sound4 (f : Fleet) (k : Nat) (h : f.Pods.length ≤ 1000) : rules_Sound_4_s f k () = bif fitB (usedA f (el f.Nodes k).Name) (el f.Nodes k).Room then .go () else .out (.at 23 (k : Int)) := by
  unfold rules_Sound_4_s
  rw [Used_val f _ h]
  simp only [optRes]
  rw [fits_val]
  rfl
theorem rnd_all {ρ : Type} {step : Nat → Unit → Res Unit ρ} {T : Nat → Prop} {O : ρ → Prop} : ∀ (k i : Nat), (∀ j, i ≤ j → j < i + k → (step j () = .go () ∧ T j) ∨ ∃ x, step j () = .out x ∧ O x ∧ ¬ T j) →
    (rndN step k i () = .go () ∧ ∀ j, i ≤ j → j < i + k → T j) ∨ ∃ x, rndN step k i () = .out x ∧ O x ∧ ∃ j, i ≤ j ∧ j < i + k ∧ ¬ T j
  | 0, i, _ => .inl ⟨rfl, fun j h1 h2 => by omega⟩
  | k + 1, i, h => by
    rcases h i (Nat.le_refl _) (by omega) with ⟨h1, h2⟩ | ⟨x, h1, h2, h3⟩
    · rcases rnd_all (T := T) (O := O) k (i + 1) (fun j a b => h j (by omega) (by omega)) with ⟨h3, h4⟩ | ⟨x, h3, h4, j, h5, h6, h7⟩
      · refine .inl ⟨by rw [rndN, h1]; exact h3, fun j a b => ?_⟩
        by_cases e : j = i
        · rw [e]; exact h2
        · exact h4 j (by omega) (by omega)
      · exact .inr ⟨x, by rw [rndN, h1]; exact h3, h4, j, by omega, by omega, h7⟩
    · exact .inr ⟨x, by rw [rndN, h1], h2, i, Nat.le_refl _, by omega, h3⟩
structure SoundOk (f : Fleet) : Prop where
  tn : twQ f.Nodes < 0
  tp : twQ f.Pods < 0
  pods : ∀ i, i < f.Pods.length → podB (lostQ f.Nodes (el f.Pods i).Node) (el f.Pods i) = true
  nodes : ∀ k, k < f.Nodes.length → fitB (usedA f (el f.Nodes k).Name) (el f.Nodes k).Room = true
theorem sound_cases (f : Fleet) (hn : f.Nodes.length ≤ 1000) (hp : f.Pods.length ≤ 1000) (on : okTw f.Nodes) (op : okTw f.Pods) : (rules_Sound f = some .ok ∧ SoundOk f) ∨ ((∃ a b, rules_Sound f = some (.at a b)) ∧ ¬ SoundOk f) := by
  unfold rules_Sound
  rw [if_pos on, if_pos op, if_pos (by omega), if_pos (by omega)]
  by_cases h1 : 0 ≤ twQ f.Nodes
  · rw [decide_eq_true h1]
    exact .inr ⟨⟨_, _, rfl⟩, fun h => by have := h.tn; omega⟩
  rw [decide_eq_false h1, cond_false]
  by_cases h2 : 0 ≤ twQ f.Pods
  · rw [decide_eq_true h2]
    exact .inr ⟨⟨_, _, rfl⟩, fun h => by have := h.tp; omega⟩
  rw [decide_eq_false h2, cond_false]
  rcases rnd_all (step := rules_Sound_0_s f) (T := fun i => podB (lostQ f.Nodes (el f.Pods i).Node) (el f.Pods i) = true) (O := fun x => ∃ a b, x = Er.at a b) f.Pods.length 0 (fun j _ _ => by
    rcases sound0 f j hn with h | ⟨a, h3, h4⟩
    · exact .inl h
    · exact .inr ⟨_, h3, ⟨_, _, rfl⟩, by rw [h4]; simp⟩) with ⟨e, h3⟩ | ⟨x, e, ⟨a, b, rfl⟩, j, _, hj, h3⟩
  · rw [e]
    simp only [Res.opt]
    rcases rnd_all (step := rules_Sound_4_s f) (T := fun k => fitB (usedA f (el f.Nodes k).Name) (el f.Nodes k).Room = true) (O := fun x => ∃ a b, x = Er.at a b) f.Nodes.length 0 (fun j _ _ => by
      have h := sound4 f j hp
      cases hb : fitB (usedA f (el f.Nodes j).Name) (el f.Nodes j).Room with
      | true => rw [hb] at h; exact .inl ⟨h, rfl⟩
      | false => rw [hb] at h; exact .inr ⟨_, h, ⟨_, _, rfl⟩, by simp⟩) with ⟨e2, h4⟩ | ⟨x, e2, ⟨a, b, rfl⟩, j, _, hj, h4⟩
    · rw [e2]
      exact .inl ⟨rfl, by omega, by omega, fun i hi => h3 i (Nat.zero_le _) (by omega), fun i hi => h4 i (Nat.zero_le _) (by omega)⟩
    · rw [e2]
      exact .inr ⟨⟨_, _, rfl⟩, fun h => h4 (h.nodes j (by omega))⟩
  · rw [e]
    exact .inr ⟨⟨_, _, rfl⟩, fun h => h3 (h.pods j (by omega))⟩
theorem el_set {α : Type} [Inhabited α] {l : List α} {j i : Nat} {x : α} (hi : i < l.length) : el (l.set j x) i = if i = j then x else el l i := by
  rw [el_at (by simpa using hi), el_at hi, List.getElem_set]
  by_cases h : j = i
  · rw [if_pos h, if_pos h.symm]
  · rw [if_neg h, if_neg (fun q => h q.symm)]
theorem pick_some (l : List Object) (k : Int) (h : l.length ≤ 1000) : ∃ s, law16_pick l k = some s := by
  unfold law16_pick kit_Pick
  by_cases h0 : ((l.length : Nat) : Int) = 0
  · rw [decide_eq_true h0]; exact ⟨_, rfl⟩
  rw [decide_eq_false h0, cond_false, decide_eq_false (by omega), cond_false, if_pos h0]
  have hb : (Int.tmod k ((l.length : Nat) : Int)).natAbs < l.length := by
    rw [Int.natAbs_tmod]
    exact Nat.mod_lt _ (by simp; omega)
  by_cases hneg : Int.tmod k ((l.length : Nat) : Int) < 0
  · rw [decide_eq_true hneg]
    simp only [cond_true, Option.bind_some]
    rw [i64_small (by omega), if_pos (by omega)]
    exact ⟨_, rfl⟩
  · rw [decide_eq_false hneg]
    simp only [cond_false, Option.bind_some]
    rw [if_pos (by omega)]
    exact ⟨_, rfl⟩
theorem okTw_of {l : List Object} (hl : l.length ≤ 300) (h : ∀ o ∈ l, OkObject o) : okTw l := ⟨by omega, fun o ho => by
  have := h o ho
  unfold OkObject at this
  have := this.2.1
  omega⟩
end Go.Proofs.Ytcchccdbkpidpaa.Ag
