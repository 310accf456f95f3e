/- RulesRoom, in plain Lean. -/
import Derived.Test.YtcchccdbkpidpaaAhRl
set_option maxRecDepth 100000
set_option linter.unusedVariables false
set_option linter.unusedSimpArgs false
namespace Go.Proofs.Ytcchccdbkpidpaa.Ag
open Go Go.RowKit Go.Proofs.Ytcchccdbkpidpaa.Av Go.Proofs.Ytcchccdbkpidpaa.AvT Go.Proofs.Ytcchccdbkpidpaa.AvS

theorem rnd_units {ρ : Type} {step : Nat → Unit → Res Unit ρ} : ∀ (k i : Nat), rndN step k i () = .go () → ∀ j, i ≤ j → j < i + k → step j () = .go ()
  | 0, i, _, j, h1, h2 => by omega
  | k + 1, i, h, j, h1, h2 => by
    rw [rndN] at h
    cases hs : step i () with
    | go s =>
      rw [hs] at h
      by_cases hij : j = i
      · rw [hij]; exact hs
      · exact rnd_units k (i + 1) h j (by omega) (by omega)
    | out x => rw [hs] at h; cases h
    | die => rw [hs] at h; cases h
theorem rnd_outs {ρ : Type} {step : Nat → Unit → Res Unit ρ} {x : ρ} : ∀ (k i : Nat), rndN step k i () = .out x → ∃ j, i ≤ j ∧ j < i + k ∧ step j () = .out x
  | 0, i, h => by cases h
  | k + 1, i, h => by
    rw [rndN] at h
    cases hs : step i () with
    | go s =>
      rw [hs] at h
      obtain ⟨j, h1, h2, h3⟩ := rnd_outs k (i + 1) h
      exact ⟨j, by omega, by omega, h3⟩
    | out y => rw [hs] at h; cases h; exact ⟨i, Nat.le_refl _, by omega, hs⟩
    | die => rw [hs] at h; cases h
/-- Is the first node of a name lost? -/
def lostQ (l : List Object) (name : ByteArray) : Option Bool := match rndN (law16_at_0_s l name) l.length 0 () with
  | .out d => some (el l d.toNat).Lost
  | _ => none
def podB (lost : Option Bool) (o : Object) : Bool :=
  bif o.Ready then (bif o.Ending then false else bif decide (o.Phase = 1) then (bif decide (o.Node = (⟨#[]⟩ : ByteArray)) then false else match lost with | none => false | some l => !l) else false)
  else bif decide (o.Phase = 1) then (bif decide (o.Node = (⟨#[]⟩ : ByteArray)) then false else lost.isSome) else (bif decide (o.Node = (⟨#[]⟩ : ByteArray)) then true else lost.isSome)
theorem sound0 (f : Fleet) (i : Nat) (hn : f.Nodes.length ≤ 1000) : (rules_Sound_0_s f i () = .go () ∧ podB (lostQ f.Nodes (el f.Pods i).Node) (el f.Pods i) = true) ∨ ∃ a, rules_Sound_0_s f i () = .out (.at a (i : Int)) ∧ podB (lostQ f.Nodes (el f.Pods i).Node) (el f.Pods i) = false := by
  have e1 : rules_Sound_1_s f i = law16_at_0_s f.Nodes (el f.Pods i).Node := rfl
  have e2 : rules_Sound_2_s f i = law16_at_0_s f.Nodes (el f.Pods i).Node := rfl
  have e3 : rules_Sound_3_s f i = law16_at_0_s f.Nodes (el f.Pods i).Node := rfl
  unfold rules_Sound_0_s
  rw [if_pos (by omega), if_pos (by omega), if_pos (by omega), e1, e2, e3]
  generalize el f.Pods i = o
  rcases rnd_find (p := fun j => decide ((el f.Nodes j).Name = o.Node)) (step := law16_at_0_s f.Nodes o.Node) f.Nodes.length 0 (fun j _ _ => rfl) with ⟨e, h2⟩ | ⟨j, _, hj, e, h2, h3⟩
  · have hl : lostQ f.Nodes o.Node = none := by unfold lostQ; rw [e]
    rw [e, hl]
    unfold podB
    cases o.Ready <;> cases o.Ending <;> cases decide (o.Phase = 1) <;> cases decide (o.Node = (⟨#[]⟩ : ByteArray)) <;> simp [Res.res]
  · have hl : lostQ f.Nodes o.Node = some (el f.Nodes j).Lost := by unfold lostQ; rw [e]; rfl
    have hjl : j < f.Nodes.length := by omega
    rw [e, hl]
    simp only [Res.res]
    rw [show (decide (((j : Nat) : Int) < (0 : Int))) = false from decide_eq_false (by omega)]
    simp only [cond_false]
    rw [if_pos (by omega), Int.toNat_natCast]
    unfold podB
    cases o.Ready <;> cases o.Ending <;> cases decide (o.Phase = 1) <;> cases decide (o.Node = (⟨#[]⟩ : ByteArray)) <;> cases (el f.Nodes j).Lost <;> simp [hjl]
/-- What an amount counts. -/
def cq (n : Int) : Int := max (clampQ n) 0
theorem cq_in (n : Int) : 0 ≤ cq n ∧ cq n ≤ 1125899906842624 := by unfold cq clampQ; omega
def needs (g : Object → Int) (node : ByteArray) : List Object → Int
  | [] => 0
  | o :: l => (bif decide (o.Node = node) then cq (g o) else 0) + needs g node l
theorem needs_app (g : Object → Int) (node : ByteArray) : ∀ l m : List Object, needs g node (l ++ m) = needs g node l + needs g node m
  | [], m => by simp [needs]
  | o :: l, m => by simp only [List.cons_append, needs, needs_app g node l m]; omega
theorem needs_nonneg (g : Object → Int) (node : ByteArray) : ∀ l : List Object, 0 ≤ needs g node l
  | [] => by simp [needs]
  | o :: l => by
    have := needs_nonneg g node l
    have := cq_in (g o)
    simp only [needs]
    cases decide (o.Node = node) <;> simp <;> omega
theorem needs_set (g : Object → Int) (node : ByteArray) (x : Object) : ∀ (l : List Object) (j : Nat), j < l.length → needs g node (l.set j x) = needs g node l - (bif decide ((el l j).Node = node) then cq (g (el l j)) else 0) + (bif decide (x.Node = node) then cq (g x) else 0)
  | [], j, h => by simp at h
  | o :: l, 0, h => by simp only [List.set_cons_zero, needs]; have : el (o :: l) 0 = o := rfl; rw [this]; omega
  | o :: l, j + 1, h => by
    simp only [List.set_cons_succ, needs]
    rw [needs_set g node x l j (by simpa using h)]
    have : el (o :: l) (j + 1) = el l j := rfl
    rw [this]
    omega
def topQ (n : Int) : Int := min n 1125899906842624
theorem Used_val (f : Fleet) (node : ByteArray) (h : f.Pods.length ≤ 1000) : rules_Used f node = some (bif decide (node = (⟨#[]⟩ : ByteArray)) then ⟨0, 0⟩ else ⟨topQ (needs (·.Need.Cpu) node f.Pods), topQ (needs (·.Need.Mem) node f.Pods)⟩) := by
  unfold rules_Used
  rw [if_pos (by omega)]
  cases hz : decide (node = (⟨#[]⟩ : ByteArray)) with
  | true =>
    rw [rnd_pass (step := rules_Used_0_s node f) (s := ((0 : Int), (0 : Int))) f.Pods.length 0 (fun j _ _ => by unfold rules_Used_0_s; rw [hz]; rfl)]
    rfl
  | false =>
    obtain ⟨s, e, hs⟩ := rnd_inv (step := rules_Used_0_s node f) (I := fun j s => s = (topQ (needs (·.Need.Cpu) node (f.Pods.take j)), topQ (needs (·.Need.Mem) node (f.Pods.take j)))) f.Pods.length 0 ((0 : Int), (0 : Int)) rfl (fun j s _ hj hs => by
      have hj : j < f.Pods.length := by omega
      have ht : f.Pods.take (j + 1) = f.Pods.take j ++ [el f.Pods j] := by rw [List.take_succ_eq_append_getElem hj, el_at hj]
      have h1 := needs_nonneg (·.Need.Cpu) node (f.Pods.take j)
      have h2 := needs_nonneg (·.Need.Mem) node (f.Pods.take j)
      rw [ht, needs_app, needs_app]
      generalize needs (·.Need.Cpu) node (f.Pods.take j) = A at *
      generalize needs (·.Need.Mem) node (f.Pods.take j) = B at *
      subst hs
      unfold rules_Used_0_s
      rw [hz]
      simp only [cond_false, needs]
      cases decide ((el f.Pods j).Node = node) with
      | false => exact ⟨_, rfl, by simp⟩
      | true =>
        have c1 := cq_in (el f.Pods j).Need.Cpu
        have c2 := cq_in (el f.Pods j).Need.Mem
        refine ⟨_, rfl, ?_⟩
        show (min (IntKind.i64.wrap (topQ A + cq (el f.Pods j).Need.Cpu)) 1125899906842624, min (IntKind.i64.wrap (topQ B + cq (el f.Pods j).Need.Mem)) 1125899906842624) = _
        rw [i64_small (by unfold topQ; omega), i64_small (by unfold topQ; omega)]
        simp only [cond_true]
        unfold topQ
        congr 1 <;> omega)
    rw [e]
    simp only [Nat.zero_add, List.take_length] at hs
    rw [hs]
    rfl
def usedA (f : Fleet) (node : ByteArray) : Amount := bif decide (node = (⟨#[]⟩ : ByteArray)) then ⟨0, 0⟩ else ⟨topQ (needs (·.Need.Cpu) node f.Pods), topQ (needs (·.Need.Mem) node f.Pods)⟩
def fitB (a r : Amount) : Bool := decide (a.Cpu ≤ r.Cpu) && decide (a.Mem ≤ r.Mem)
theorem fits_val (a r : Amount) : amount_Fits a r = some (fitB a r) := by
  unfold amount_Fits fitB
  cases decide (a.Cpu ≤ r.Cpu) <;> rfl
theorem sound4 (f : Fleet) (k : Nat) (h : f.Pods.length ≤ 1000) : rules_Sound_4_s f k () = bif fitB (usedA f (el f.Nodes k).Name) (el f.Nodes k).Room then .go () else .out (.at 23 (k : Int)) := by
  unfold rules_Sound_4_s
  rw [Used_val f _ h]
  simp only [optRes]
  rw [fits_val]
  rfl
theorem rnd_all {ρ : Type} {step : Nat → Unit → Res Unit ρ} {T : Nat → Prop} {O : ρ → Prop} : ∀ (k i : Nat), (∀ j, i ≤ j → j < i + k → (step j () = .go () ∧ T j) ∨ ∃ x, step j () = .out x ∧ O x ∧ ¬ T j) →
    (rndN step k i () = .go () ∧ ∀ j, i ≤ j → j < i + k → T j) ∨ ∃ x, rndN step k i () = .out x ∧ O x ∧ ∃ j, i ≤ j ∧ j < i + k ∧ ¬ T j
  | 0, i, _ => .inl ⟨rfl, fun j h1 h2 => by omega⟩
  | k + 1, i, h => by
    rcases h i (Nat.le_refl _) (by omega) with ⟨h1, h2⟩ | ⟨x, h1, h2, h3⟩
    · rcases rnd_all (T := T) (O := O) k (i + 1) (fun j a b => h j (by omega) (by omega)) with ⟨h3, h4⟩ | ⟨x, h3, h4, j, h5, h6, h7⟩
      · refine .inl ⟨by rw [rndN, h1]; exact h3, fun j a b => ?_⟩
        by_cases e : j = i
        · rw [e]; exact h2
        · exact h4 j (by omega) (by omega)
      · exact .inr ⟨x, by rw [rndN, h1]; exact h3, h4, j, by omega, by omega, h7⟩
    · exact .inr ⟨x, by rw [rndN, h1], h2, i, Nat.le_refl _, by omega, h3⟩
structure SoundOk (f : Fleet) : Prop where
  tn : twQ f.Nodes < 0
  tp : twQ f.Pods < 0
  pods : ∀ i, i < f.Pods.length → podB (lostQ f.Nodes (el f.Pods i).Node) (el f.Pods i) = true
  nodes : ∀ k, k < f.Nodes.length → fitB (usedA f (el f.Nodes k).Name) (el f.Nodes k).Room = true
theorem sound_cases (f : Fleet) (hn : f.Nodes.length ≤ 1000) (hp : f.Pods.length ≤ 1000) (on : okTw f.Nodes) (op : okTw f.Pods) : (rules_Sound f = some .ok ∧ SoundOk f) ∨ ((∃ a b, rules_Sound f = some (.at a b)) ∧ ¬ SoundOk f) := by
  unfold rules_Sound
  rw [if_pos on, if_pos op, if_pos (by omega), if_pos (by omega)]
  by_cases h1 : 0 ≤ twQ f.Nodes
  · rw [decide_eq_true h1]
    exact .inr ⟨⟨_, _, rfl⟩, fun h => by have := h.tn; omega⟩
  rw [decide_eq_false h1, cond_false]
  by_cases h2 : 0 ≤ twQ f.Pods
  · rw [decide_eq_true h2]
    exact .inr ⟨⟨_, _, rfl⟩, fun h => by have := h.tp; omega⟩
  rw [decide_eq_false h2, cond_false]
  rcases rnd_all (step := rules_Sound_0_s f) (T := fun i => podB (lostQ f.Nodes (el f.Pods i).Node) (el f.Pods i) = true) (O := fun x => ∃ a b, x = Er.at a b) f.Pods.length 0 (fun j _ _ => by
    rcases sound0 f j hn with h | ⟨a, h3, h4⟩
    · exact .inl h
    · exact .inr ⟨_, h3, ⟨_, _, rfl⟩, by rw [h4]; simp⟩) with ⟨e, h3⟩ | ⟨x, e, ⟨a, b, rfl⟩, j, _, hj, h3⟩
  · rw [e]
    simp only [Res.opt]
    rcases rnd_all (step := rules_Sound_4_s f) (T := fun k => fitB (usedA f (el f.Nodes k).Name) (el f.Nodes k).Room = true) (O := fun x => ∃ a b, x = Er.at a b) f.Nodes.length 0 (fun j _ _ => by
      have h := sound4 f j hp
      cases hb : fitB (usedA f (el f.Nodes j).Name) (el f.Nodes j).Room with
      | true => rw [hb] at h; exact .inl ⟨h, rfl⟩
      | false => rw [hb] at h; exact .inr ⟨_, h, ⟨_, _, rfl⟩, by simp⟩) with ⟨e2, h4⟩ | ⟨x, e2, ⟨a, b, rfl⟩, j, _, hj, h4⟩
    · rw [e2]
      exact .inl ⟨rfl, by omega, by omega, fun i hi => h3 i (Nat.zero_le _) (by omega), fun i hi => h4 i (Nat.zero_le _) (by omega)⟩
    · rw [e2]
      exact .inr ⟨⟨_, _, rfl⟩, fun h => h4 (h.nodes j (by omega))⟩
  · rw [e]
    exact .inr ⟨⟨_, _, rfl⟩, fun h => h3 (h.pods j (by omega))⟩
theorem tw_neg : ∀ (l seen : List ByteArray), twL seen l < 0 → (∀ s ∈ l, hasS seen s = false) ∧ l.Pairwise (· ≠ ·)
  | [], seen, h => ⟨by simp, .nil⟩
  | s :: r, seen, h => by
    rw [twL] at h
    cases hs : hasS seen s with
    | true => rw [hs] at h; simp at h; omega
    | false =>
      rw [hs] at h
      obtain ⟨h1, h2⟩ := tw_neg r _ h
      have h3 : ∀ t ∈ r, hasS seen t = false ∧ s ≠ t := fun t ht => by
        have := h1 t ht
        unfold hasS at this ⊢
        rw [List.any_append] at this
        simpa using this
      refine ⟨fun t ht => ?_, .cons (fun t ht => (h3 t ht).2) h2⟩
      rcases List.mem_cons.1 ht with rfl | ht
      · exact hs
      · exact (h3 t ht).1
theorem names_apart {l : List Object} (h : twQ l < 0) {i j : Nat} (hij : i < j) (hj : j < l.length) : (el l i).Name ≠ (el l j).Name := by
  have hp := (tw_neg _ _ h).2
  rw [List.pairwise_iff_getElem] at hp
  have := hp i j (by simp; omega) (by simp; omega) hij
  rw [el_at hj, el_at (by omega)]
  simpa using this
theorem both_val (a b : Int) (need : Amount) (ha : 0 ≤ a) (hb : 0 ≤ b) : rules_both ⟨topQ a, topQ b⟩ need = some ⟨topQ (a + cq need.Cpu), topQ (b + cq need.Mem)⟩ := by
  have c1 := cq_in need.Cpu
  have c2 := cq_in need.Mem
  show some (⟨min (IntKind.i64.wrap (topQ a + cq need.Cpu)) 1125899906842624, min (IntKind.i64.wrap (topQ b + cq need.Mem)) 1125899906842624⟩ : Amount) = _
  rw [i64_small (by unfold topQ; omega), i64_small (by unfold topQ; omega)]
  unfold topQ
  congr 2 <;> omega
theorem bind_cases (f : Fleet) (p n : ByteArray) (hn : f.Nodes.length ≤ 1000) (hp : f.Pods.length ≤ 1000) : (∃ a, rules_Bind f p n = some (.no a)) ∨
    ∃ j k : Nat, rules_Bind f p n = some .ok ∧ j < f.Pods.length ∧ law16_at f.Pods p = some ((j : Nat) : Int) ∧ k < f.Nodes.length ∧ (el f.Nodes k).Name = n ∧ (∀ q, q < k → decide ((el f.Nodes q).Name = n) = false) ∧ n ≠ (⟨#[]⟩ : ByteArray) ∧ (el f.Pods j).Node = (⟨#[]⟩ : ByteArray) ∧ lostQ f.Nodes n = some false ∧
      fitB ⟨topQ (needs (·.Need.Cpu) n f.Pods + cq (el f.Pods j).Need.Cpu), topQ (needs (·.Need.Mem) n f.Pods + cq (el f.Pods j).Need.Mem)⟩ (el f.Nodes k).Room = true := by
  have e0 : rules_Bind_0_s f p = law16_at_0_s f.Pods p := rfl
  have e1 : rules_Bind_1_s f n = law16_at_0_s f.Nodes n := rfl
  have e2 : rules_Bind_2_s f n = law16_at_0_s f.Nodes n := rfl
  have e3 : rules_Bind_3_s f n = law16_at_0_s f.Nodes n := rfl
  unfold rules_Bind law16_at
  have hP : f.Pods.length ≤ 9223372036854775807 := by omega
  have hN : f.Nodes.length ≤ 9223372036854775807 := by omega
  simp only [if_pos hP, if_pos hN, e0, e1, e2, e3]
  have hlost : lostQ f.Nodes n = match rndN (law16_at_0_s f.Nodes n) f.Nodes.length 0 () with | .out d => some (el f.Nodes d.toNat).Lost | _ => none := rfl
  rcases rnd_find (p := fun j => decide ((el f.Pods j).Name = p)) (step := law16_at_0_s f.Pods p) f.Pods.length 0 (fun j _ _ => rfl) with ⟨e, h2⟩ | ⟨j, _, hj, e, h2, h3⟩
  · rw [e]
    simp only [Res.opt]
    rcases rnd_find (p := fun j => decide ((el f.Nodes j).Name = n)) (step := law16_at_0_s f.Nodes n) f.Nodes.length 0 (fun j _ _ => rfl) with ⟨e', g2⟩ | ⟨k, _, hk, e', g2, g3⟩
    · rw [e']; exact .inl ⟨_, rfl⟩
    · rw [e']
      simp only []
      rw [show (decide (((k : Nat) : Int) < (0 : Int))) = false from decide_eq_false (by omega), cond_false, if_pos (by omega)]
      exact .inl ⟨_, rfl⟩
  · rw [e]
    simp only [Res.opt]
    rw [show (decide (((j : Nat) : Int) < (0 : Int))) = false from decide_eq_false (by omega), cond_false, if_pos (by omega)]
    rcases rnd_find (p := fun j => decide ((el f.Nodes j).Name = n)) (step := law16_at_0_s f.Nodes n) f.Nodes.length 0 (fun j _ _ => rfl) with ⟨e', g2⟩ | ⟨k, _, hk, e', g2, g3⟩
    · rw [e']; exact .inl ⟨_, rfl⟩
    · rw [e'] at hlost ⊢
      simp only [Int.toNat_natCast] at hlost ⊢
      rw [show (decide (((k : Nat) : Int) < (0 : Int))) = false from decide_eq_false (by omega), cond_false, if_pos (by omega)]
      by_cases hz : n = (⟨#[]⟩ : ByteArray)
      · rw [decide_eq_true hz]; exact .inl ⟨_, rfl⟩
      rw [decide_eq_false hz, cond_false]
      cases (el f.Pods j).Ending with
      | true => exact .inl ⟨_, rfl⟩
      | false =>
        rw [cond_false]
        by_cases hpn : (el f.Pods j).Node = (⟨#[]⟩ : ByteArray)
        · rw [decide_eq_true hpn, cond_true]
          cases hL : (el f.Nodes k).Lost with
          | true => exact .inl ⟨_, rfl⟩
          | false =>
            rw [cond_false]
            cases (el f.Nodes k).Cordoned with
            | true => exact .inl ⟨_, rfl⟩
            | false =>
              rw [cond_false, Used_val f n hp, decide_eq_false hz, cond_false, Option.bind_some, both_val _ _ _ (needs_nonneg _ _ _) (needs_nonneg _ _ _), Option.bind_some, fits_val, Option.bind_some]
              cases hF : fitB ⟨topQ (needs (·.Need.Cpu) n f.Pods + cq (el f.Pods j).Need.Cpu), topQ (needs (·.Need.Mem) n f.Pods + cq (el f.Pods j).Need.Mem)⟩ (el f.Nodes k).Room with
              | true => exact .inr ⟨j, k, rfl, by omega, rfl, by omega, of_decide_eq_true g2, fun q hq => g3 q (Nat.zero_le _) hq, hz, hpn, by rw [hlost, hL], hF⟩
              | false => exact .inl ⟨_, rfl⟩
        · rw [decide_eq_false hpn]
          exact .inl ⟨_, rfl⟩
theorem el_set {α : Type} [Inhabited α] {l : List α} {j i : Nat} {x : α} (hi : i < l.length) : el (l.set j x) i = if i = j then x else el l i := by
  rw [el_at (by simpa using hi), el_at hi, List.getElem_set]
  by_cases h : j = i
  · rw [if_pos h, if_pos h.symm]
  · rw [if_neg h, if_neg (fun q => h q.symm)]
theorem sound_after (f : Fleet) {j k : Nat} {n : ByteArray} (h : SoundOk f) (hp : f.Pods.length ≤ 1000) (hj : j < f.Pods.length) (hk : k < f.Nodes.length) (hkn : (el f.Nodes k).Name = n) (hfirst : ∀ q, q < k → decide ((el f.Nodes q).Name = n) = false) (hz : n ≠ (⟨#[]⟩ : ByteArray))
    (hpn : (el f.Pods j).Node = (⟨#[]⟩ : ByteArray)) (hlost : lostQ f.Nodes n = some false)
    (hfit : fitB ⟨topQ (needs (·.Need.Cpu) n f.Pods + cq (el f.Pods j).Need.Cpu), topQ (needs (·.Need.Mem) n f.Pods + cq (el f.Pods j).Need.Mem)⟩ (el f.Nodes k).Room = true) :
    SoundOk ⟨f.Nodes, f.Pods.set j { (el f.Pods j) with Node := n }, f.Deploys, f.Budgets⟩ := by
  have hnames : (f.Pods.set j { (el f.Pods j) with Node := n }).map (·.Name) = f.Pods.map (·.Name) := by
    rw [List.map_set]
    apply List.ext_getElem?
    intro i
    rw [List.getElem?_set]
    by_cases hi : j = i
    · subst hi
      rw [if_pos rfl, if_pos (by simpa using hj), List.getElem?_map, List.getElem?_eq_getElem hj, el_at hj]
      rfl
    · rw [if_neg hi]
  refine ⟨h.tn, ?_, fun i hi => ?_, fun q hq => ?_⟩
  · show twQ (f.Pods.set j _) < 0
    unfold twQ
    rw [hnames]
    exact h.tp
  · have hi : i < f.Pods.length := by simpa using hi
    show podB (lostQ f.Nodes (el (f.Pods.set j { (el f.Pods j) with Node := n }) i).Node) (el (f.Pods.set j { (el f.Pods j) with Node := n }) i) = true
    rw [el_set hi]
    by_cases hij : i = j
    · rw [if_pos hij]
      have h1 := h.pods j hj
      simp only
      rw [hlost]
      unfold podB at h1 ⊢
      simp only
      rw [decide_eq_true hpn] at h1
      rw [decide_eq_false hz]
      revert h1
      cases (el f.Pods j).Ready <;> cases (el f.Pods j).Ending <;> cases decide ((el f.Pods j).Phase = 1) <;> simp
    · rw [if_neg hij]
      exact h.pods i hi
  · have h1 := h.nodes q hq
    show fitB (usedA _ (el f.Nodes q).Name) (el f.Nodes q).Room = true
    by_cases hz2 : (el f.Nodes q).Name = (⟨#[]⟩ : ByteArray)
    · unfold usedA at h1 ⊢
      rw [decide_eq_true hz2] at h1 ⊢
      exact h1
    · by_cases hqn : (el f.Nodes q).Name = n
      · have hqk : q = k := by
          rcases Nat.lt_trichotomy q k with hlt | he | hgt
          · have := hfirst q hlt
            rw [decide_eq_true hqn] at this
            cases this
          · exact he
          · exact absurd (hkn.trans hqn.symm) (names_apart h.tn hgt hq)
        subst hqk
        unfold usedA
        rw [hqn, decide_eq_false hz, cond_false]
        show fitB ⟨topQ (needs (·.Need.Cpu) n (f.Pods.set j _)), topQ (needs (·.Need.Mem) n (f.Pods.set j _))⟩ _ = true
        rw [needs_set _ _ _ _ _ hj, needs_set _ _ _ _ _ hj, hpn, decide_eq_false (fun q => hz q.symm)]
        simpa using hfit
      · unfold usedA at h1 ⊢
        rw [decide_eq_false hz2, cond_false] at h1 ⊢
        show fitB ⟨topQ (needs (·.Need.Cpu) (el f.Nodes q).Name (f.Pods.set j _)), topQ (needs (·.Need.Mem) (el f.Nodes q).Name (f.Pods.set j _))⟩ _ = true
        rw [needs_set _ _ _ _ _ hj, needs_set _ _ _ _ _ hj, hpn, decide_eq_false (fun e => hz2 e.symm)]
        simp only
        rw [decide_eq_false (fun e => hqn e.symm)]
        simpa using h1
theorem pick_some (l : List Object) (k : Int) (h : l.length ≤ 1000) : ∃ s, law16_pick l k = some s := by
  unfold law16_pick kit_Pick
  by_cases h0 : ((l.length : Nat) : Int) = 0
  · rw [decide_eq_true h0]; exact ⟨_, rfl⟩
  rw [decide_eq_false h0, cond_false, decide_eq_false (by omega), cond_false, if_pos h0]
  have hb : (Int.tmod k ((l.length : Nat) : Int)).natAbs < l.length := by
    rw [Int.natAbs_tmod]
    exact Nat.mod_lt _ (by simp; omega)
  by_cases hneg : Int.tmod k ((l.length : Nat) : Int) < 0
  · rw [decide_eq_true hneg]
    simp only [cond_true, Option.bind_some]
    rw [i64_small (by omega), if_pos (by omega)]
    exact ⟨_, rfl⟩
  · rw [decide_eq_false hneg]
    simp only [cond_false, Option.bind_some]
    rw [if_pos (by omega)]
    exact ⟨_, rfl⟩
theorem okTw_of {l : List Object} (hl : l.length ≤ 300) (h : ∀ o ∈ l, OkObject o) : okTw l := ⟨by omega, fun o ho => by
  have := h o ho
  unfold OkObject at this
  have := this.2.1
  omega⟩
theorem pure_RulesRoom (f : Fleet) (pod node : Int) (O0 : OkFleet f) (O1 : (Lit.int .i64 pod).wf = true) (O2 : (Lit.int .i64 node).wf = true) : law16_RulesRoom f pod node = some true := by
  unfold law16_RulesRoom
  rw [works_eq]
  simp only [Option.bind_some, cond_true]
  rcases big_cases f with h | ⟨h, hl⟩
  · rw [h]; rfl
  rw [h]
  have hf := okFl_of O0 hl
  have hn := hf.n
  have hp := hf.p
  have tn : okTw f.Nodes := okTw_of hn O0.1.2.2
  have tp : okTw f.Pods := okTw_of hp O0.2.1.2.2
  simp only [Option.bind_some, cond_false]
  rcases sound_cases f (by omega) (by omega) tn tp with ⟨e, hs⟩ | ⟨⟨a, b, e⟩, _⟩
  · obtain ⟨p, ep⟩ := pick_some f.Pods pod (by omega)
    obtain ⟨n, en⟩ := pick_some f.Nodes node (by omega)
    rw [e]
    simp only [Option.bind_some, Er.elim]
    rw [ep, en]
    simp only [Option.bind_some]
    rcases bind_cases f p n (by omega) (by omega) with ⟨a, e⟩ | ⟨j, k, e, hj, hat, hk, hkn, hfirst, hz, hpn, hlost, hfit⟩
    · rw [e]; rfl
    · rw [e]
      simp only [Option.bind_some, Er.elim]
      rw [ref0_CopyObjects_eq _ hf.n hf.ln, ref0_CopyObjects_eq _ hf.p hf.lp, ref0_CopyObjects_eq _ hf.d hf.ld, ref0_CopyObjects_eq _ hf.b hf.lb]
      simp only [Option.bind_some]
      rw [hat]
      simp only [Option.bind_some]
      rw [if_pos (by omega), Int.toNat_natCast]
      have hok : okTw (f.Pods.set j { (el f.Pods j) with Node := n }) := by
        refine ⟨by simp; omega, fun o ho => ?_⟩
        rcases List.mem_or_eq_of_mem_set ho with ho | rfl
        · exact tp.2 o ho
        · exact (tp.2 (el f.Pods j) (el_mem hj) : (el f.Pods j).Name.size ≤ 9223372036854775807)
      rcases sound_cases ⟨f.Nodes, f.Pods.set j { (el f.Pods j) with Node := n }, f.Deploys, f.Budgets⟩ (by simp; omega) (by simp; omega) tn hok with ⟨e2, _⟩ | ⟨_, hno⟩
      · rw [e2]; rfl
      · exact absurd (sound_after f hs (by omega) hj hk hkn hfirst hz hpn hlost hfit) hno
  · rw [e]; rfl
end Go.Proofs.Ytcchccdbkpidpaa.Ag
