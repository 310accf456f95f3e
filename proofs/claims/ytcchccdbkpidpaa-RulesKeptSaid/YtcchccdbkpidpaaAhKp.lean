/- RulesKept, in plain Lean. -/
import Derived.Test.YtcchccdbkpidpaaAhSc
set_option maxRecDepth 100000
set_option linter.unusedVariables false
set_option linter.unusedSimpArgs false
namespace Go.Proofs.Ytcchccdbkpidpaa.Ag
open Go Go.RowKit Go.Proofs.Ytcchccdbkpidpaa.Av Go.Proofs.Ytcchccdbkpidpaa.AvT Go.Proofs.Ytcchccdbkpidpaa.AvS

theorem rnd_cnt {step : Nat → Int → Res Int Empty} (q : Object → Bool) (l : List Object) (hn : l.length ≤ 1000) (h : ∀ j s, j < l.length → step j s = .go (bif q (el l j) then IntKind.i64.wrap (s + 1) else s)) : rndN step l.length 0 (0 : Int) = .go ((l.countP q : Nat) : Int) := by
  obtain ⟨s', e, hs⟩ := rnd_inv (step := step) (I := fun j (s : Int) => s = (((l.take j).countP q : Nat) : Int)) l.length 0 0 rfl (fun j s _ hj hI => by
    have hj : j < l.length := by omega
    have ht : l.take (j + 1) = l.take j ++ [el l j] := by rw [List.take_succ_eq_append_getElem hj, el_at hj]
    have hb : (l.take j).countP q ≤ j := Nat.le_trans List.countP_le_length (by simp; omega)
    rw [h j s hj, ht, List.countP_append]
    subst hI
    refine ⟨_, rfl, ?_⟩
    cases hq : q (el l j) with
    | true =>
      rw [cond_true, i64_small (by omega)]
      simp [hq]
    | false => simp [hq])
  rw [e, hs, Nat.zero_add, List.take_length]
def readyB (d : ByteArray) (o : Object) : Bool := decide (o.Deploy = d) && (!o.Ending && o.Ready)
def guardB (s : List Label) (o : Object) : Bool := o.Ready && (!o.Ending && Ak.matchesQ s o.Labels)
theorem Ready_val (f : Fleet) (d : ByteArray) (h : f.Pods.length ≤ 1000) : rules_Ready f d = some ((f.Pods.countP (readyB d) : Nat) : Int) := by
  unfold rules_Ready
  rw [if_pos (by omega), rnd_cnt (readyB d) f.Pods h (fun j s hj => by
    unfold rules_Ready_0_s readyB
    cases decide ((el f.Pods j).Deploy = d) <;> cases (el f.Pods j).Ending <;> cases (el f.Pods j).Ready <;> rfl)]
  rfl
theorem Guarded_val (f : Fleet) (b : Object) (h : f.Pods.length ≤ 1000) (hp : ∀ o ∈ f.Pods, OkLab o) (hb : OkLab b) : rules_Guarded f b = some ((f.Pods.countP (guardB b.Select) : Nat) : Int) := by
  unfold rules_Guarded
  rw [if_pos (by omega), rnd_cnt (guardB b.Select) f.Pods h (fun j s hj => by
    have h1 := (hp _ (el_mem (l := f.Pods) (i := j) (by omega))).1
    unfold rules_Guarded_0_s rules_Guarded_j1 rules_Guarded_j0 guardB
    rw [if_pos ⟨hb.2, h1⟩]
    cases (el f.Pods j).Ready <;> cases (el f.Pods j).Ending <;> cases Ak.matchesQ b.Select (el f.Pods j).Labels <;> rfl)]
  rfl
theorem bud_val (f : Fleet) (p : Nat) (hj : p < f.Pods.length) (h : OkFl f) : ∃ b, rules_Evict_j3 f ((p : Nat) : Int) = some b ∧ (b = false → ∀ i, i < f.Budgets.length → Ak.matchesQ (el f.Budgets i).Select (el f.Pods p).Labels = true → (el f.Budgets i).Least < ((f.Pods.countP (guardB (el f.Budgets i).Select) : Nat) : Int)) := by
  have hbl := h.b
  have hpl := h.p
  unfold rules_Evict_j3
  rw [if_pos (by omega)]
  rcases rnd_find (p := fun i => Ak.matchesQ (el f.Budgets i).Select (el f.Pods p).Labels && decide (((f.Pods.countP (guardB (el f.Budgets i).Select) : Nat) : Int) ≤ (el f.Budgets i).Least)) (step := rules_Evict_2_s f ((p : Nat) : Int)) f.Budgets.length 0 (fun i _ hi => by
    have hb := h.lb _ (el_mem (l := f.Budgets) (i := i) (by omega))
    have hp := (h.lp _ (el_mem (l := f.Pods) (i := p) hj)).1
    unfold rules_Evict_2_s rules_Evict_j2
    rw [Int.toNat_natCast, if_pos ⟨hb.2, hp⟩, Guarded_val f _ (by omega) h.lp hb]
    cases Ak.matchesQ (el f.Budgets i).Select (el f.Pods p).Labels with
    | false => rfl
    | true =>
      simp only [cond_true, Option.bind_some, optRes, Bool.true_and]) with ⟨e, h2⟩ | ⟨j, _, _, e, _, _⟩
  · rw [e]
    refine ⟨false, rfl, fun _ i hi hm => ?_⟩
    have := h2 i (Nat.zero_le _) (by omega)
    rw [hm, Bool.true_and] at this
    have := of_decide_eq_false this
    omega
  · rw [e]
    refine ⟨decide ((0 : Int) ≤ ((j : Nat) : Int)), rfl, fun hf => ?_⟩
    have := of_decide_eq_false hf
    omega
/-- What Evict answers. -/
theorem evict_cases (f : Fleet) (p : ByteArray) (h : OkFl f) :
    (∃ a, rules_Evict f p = some (.no a) ∧ (law16_at f.Pods p = some (-1) ∨ ∃ j, j < f.Pods.length ∧ law16_at f.Pods p = some ((j : Nat) : Int) ∧ ((el f.Pods j).Ending = true ∨ (el f.Pods j).Ready = true))) ∨
    (rules_Evict f p = some .ok ∧ ∃ j, j < f.Pods.length ∧ law16_at f.Pods p = some ((j : Nat) : Int) ∧ (el f.Pods j).Ending = false ∧ ((el f.Pods j).Ready = true →
      (∀ k : Nat, k < f.Deploys.length → law16_at f.Deploys (el f.Pods j).Deploy = some ((k : Nat) : Int) → clampQ (el f.Deploys k).Count - clampQ (el f.Deploys k).Slack ≤ ((f.Pods.countP (readyB (el f.Pods j).Deploy) : Nat) : Int) - 1) ∧
      ∀ i, i < f.Budgets.length → Ak.matchesQ (el f.Budgets i).Select (el f.Pods j).Labels = true → (el f.Budgets i).Least < ((f.Pods.countP (guardB (el f.Budgets i).Select) : Nat) : Int))) := by
  have hp := h.p
  have hd := h.d
  unfold rules_Evict
  have s0 : rules_Evict_j0 f p = law16_at f.Pods p := rfl
  rw [s0]
  rcases at_val f.Pods p (by omega) with ⟨e1, _⟩ | ⟨j, hj, e1, _, _⟩
  · rw [e1]
    exact .inl ⟨10, rfl, .inl rfl⟩
  · rw [e1]
    simp only [Option.bind_some]
    rw [decide_eq_false (show ¬ ((j : Nat) : Int) < 0 by omega), cond_false, if_pos (show 0 ≤ ((j : Nat) : Int) ∧ ((j : Nat) : Int) < ((f.Pods.length : Nat) : Int) by omega)]
    unfold rules_Evict_j6
    have s1 : rules_Evict_j1 f ((j : Nat) : Int) = law16_at f.Deploys (el f.Pods (((j : Nat) : Int)).toNat).Deploy := rfl
    have s5 : rules_Evict_j5 f ((j : Nat) : Int) = rules_Evict_j3 f ((j : Nat) : Int) := rfl
    rw [s1, s5]
    obtain ⟨b, eb, hB⟩ := bud_val f j hj h
    rw [eb]
    simp only [Int.toNat_natCast]
    cases hE : (el f.Pods j).Ending with
    | true => exact .inl ⟨27, rfl, .inr ⟨j, hj, rfl, .inl hE⟩⟩
    | false =>
      rw [cond_false]
      cases hR : (el f.Pods j).Ready with
      | false => exact .inr ⟨rfl, j, hj, rfl, hE, fun q => by rw [hR] at q; cases q⟩
      | true =>
        rw [cond_true]
        rcases at_val f.Deploys (el f.Pods j).Deploy (by omega) with ⟨e3, _⟩ | ⟨k, hk, e3, _, _⟩
        · rw [e3]
          simp only [Option.bind_some]
          rw [show decide ((-1 : Int) < 0) = true from rfl, cond_true]
          cases b with
          | true => exact .inl ⟨22, rfl, .inr ⟨j, hj, rfl, .inr hR⟩⟩
          | false =>
            refine .inr ⟨rfl, j, hj, rfl, hE, fun _ => ⟨fun k hk q => ?_, hB rfl⟩⟩
            rw [e3] at q
            injection q with q
            omega
        · rw [e3]
          simp only [Option.bind_some]
          rw [decide_eq_false (show ¬ ((k : Nat) : Int) < 0 by omega), cond_false, if_pos (show 0 ≤ ((k : Nat) : Int) ∧ ((k : Nat) : Int) < ((f.Deploys.length : Nat) : Int) by omega), Ready_val f _ (by omega)]
          have hb1 : f.Pods.countP (readyB (el f.Pods j).Deploy) ≤ 300 := Nat.le_trans List.countP_le_length hp
          simp only [Option.bind_some, rules_held, Int.toNat_natCast]
          have hw1 : IntKind.i64.wrap (((f.Pods.countP (readyB (el f.Pods j).Deploy) : Nat) : Int) - 1) = ((f.Pods.countP (readyB (el f.Pods j).Deploy) : Nat) : Int) - 1 := i64_small (by omega)
          have hw2 : IntKind.i64.wrap (min (max (el f.Deploys k).Count (-1125899906842624)) 1125899906842624 - min (max (el f.Deploys k).Slack (-1125899906842624)) 1125899906842624) = clampQ (el f.Deploys k).Count - clampQ (el f.Deploys k).Slack := i64_small (by omega)
          rw [hw1, hw2]
          by_cases hc : ((f.Pods.countP (readyB (el f.Pods j).Deploy) : Nat) : Int) - 1 < clampQ (el f.Deploys k).Count - clampQ (el f.Deploys k).Slack
          · rw [decide_eq_true hc]
            exact .inl ⟨21, rfl, .inr ⟨j, hj, rfl, .inr hR⟩⟩
          · rw [decide_eq_false hc, cond_false]
            cases b with
            | true => exact .inl ⟨22, rfl, .inr ⟨j, hj, rfl, .inr hR⟩⟩
            | false =>
              refine .inr ⟨rfl, j, hj, rfl, hE, fun _ => ⟨fun k' hk' q => ?_, hB rfl⟩⟩
              rw [e3] at q
              injection q with q
              have : k' = k := by omega
              subst this
              omega
/-- The pod, ending. -/
def ended (o : Object) : Object := { o with Ending := true, Ready := false }
theorem ended_set (l : List Object) (j : Nat) (hj : j < l.length) : (l.set j { (el l j) with Ending := true }).set j { (el (l.set j { (el l j) with Ending := true }) j) with Ready := false } = l.set j (ended (el l j)) := by
  rw [List.set_set, el_set hj, if_pos rfl]
  rfl
theorem sound_ended (f : Fleet) {j : Nat} (h : SoundOk f) (hj : j < f.Pods.length) : SoundOk ⟨f.Nodes, f.Pods.set j (ended (el f.Pods j)), f.Deploys, f.Budgets⟩ := by
  have hnames : (f.Pods.set j (ended (el f.Pods j))).map (·.Name) = f.Pods.map (·.Name) := by
    rw [List.map_set]
    apply List.ext_getElem?
    intro i
    rw [List.getElem?_set]
    by_cases hi : j = i
    · subst hi
      rw [if_pos rfl, if_pos (by simpa using hj), List.getElem?_map, List.getElem?_eq_getElem hj, el_at hj]
      rfl
    · rw [if_neg hi]
  refine ⟨h.tn, ?_, fun i hi => ?_, fun q hq => ?_⟩
  · show twQ (f.Pods.set j _) < 0
    unfold twQ
    rw [hnames]
    exact h.tp
  · have hi : i < f.Pods.length := by simpa using hi
    show podB (lostQ f.Nodes (el (f.Pods.set j (ended (el f.Pods j))) i).Node) (el (f.Pods.set j (ended (el f.Pods j))) i) = true
    rw [el_set hi]
    by_cases hij : i = j
    · rw [if_pos hij]
      have h1 := h.pods j hj
      unfold ended
      unfold podB at h1 ⊢
      simp only
      revert h1
      generalize lostQ f.Nodes (el f.Pods j).Node = z
      cases (el f.Pods j).Ready <;> cases (el f.Pods j).Ending <;> cases decide ((el f.Pods j).Phase = 1) <;> cases decide ((el f.Pods j).Node = (⟨#[]⟩ : ByteArray)) <;> cases z <;> simp
    · rw [if_neg hij]
      exact h.pods i hi
  · have h1 := h.nodes q hq
    show fitB (usedA _ (el f.Nodes q).Name) (el f.Nodes q).Room = true
    unfold usedA at h1 ⊢
    show fitB (bif _ then _ else ⟨topQ (needs (·.Need.Cpu) (el f.Nodes q).Name (f.Pods.set j _)), topQ (needs (·.Need.Mem) (el f.Nodes q).Name (f.Pods.set j _))⟩) _ = true
    rw [needs_set _ _ _ _ _ hj, needs_set _ _ _ _ _ hj]
    have e1 : (ended (el f.Pods j)).Node = (el f.Pods j).Node := rfl
    have e2 : (ended (el f.Pods j)).Need = (el f.Pods j).Need := rfl
    rw [e1]
    simp only [e2]
    rw [Int.sub_add_cancel, Int.sub_add_cancel]
    exact h1
theorem count_ended (q : Object → Bool) (l : List Object) (j : Nat) (hj : j < l.length) (hq : q (ended (el l j)) = false) : (((l.set j (ended (el l j))).countP q : Nat) : Int) = ((l.countP q : Nat) : Int) - (bif q (el l j) then 1 else 0) := by
  rw [List.countP_set hj, hq, ← el_at hj]
  cases h : q (el l j) with
  | false => simp
  | true =>
    have hpos : 0 < l.countP q := List.countP_pos_iff.2 ⟨l[j], List.getElem_mem hj, by rw [← el_at hj]; exact h⟩
    simp only [if_true, cond_true, Bool.false_eq_true, if_false]
    omega
theorem okLab_ended {o : Object} (h : OkLab o) : OkLab (ended o) := h
theorem mem_set' {l : List Object} {j : Nat} {x o : Object} (h : o ∈ l.set j x) : o ∈ l ∨ o = x := List.mem_or_eq_of_mem_set h
theorem pure_RulesKept (f : Fleet) (pod : Int) (O0 : OkFleet f) (O1 : (Lit.int .i64 pod).wf = true) : law16_RulesKept f pod = some true := by
  unfold law16_RulesKept law16_RulesKept_j0
  rw [works_eq]
  simp only [Option.bind_some, cond_true]
  rcases big_cases f with h | ⟨h, hl⟩
  · rw [h]; rfl
  rw [h]
  have hf := okFl_of O0 hl
  have hn := hf.n
  have hp := hf.p
  have hd := hf.d
  have tn : okTw f.Nodes := okTw_of hn O0.1.2.2
  have tp : okTw f.Pods := okTw_of hp O0.2.1.2.2
  simp only [Option.bind_some, cond_false]
  rcases sound_cases f (by omega) (by omega) tn tp with ⟨e, hs⟩ | ⟨⟨a, b, e⟩, _⟩
  rotate_left
  · rw [e]; rfl
  obtain ⟨p, ep⟩ := pick_some f.Pods pod (by omega)
  rw [e]
  simp only [Option.bind_some, Er.isOk, Bool.not_true, cond_false]
  rw [ep]
  simp only [Option.bind_some]
  rcases evict_cases f p hf with ⟨a, e1, hc⟩ | ⟨e1, j, hj, hat, hE, hR⟩
  · rw [e1]
    rcases hc with hat | ⟨j, hj, hat, hc⟩
    · rw [hat]; rfl
    · rw [hat]
      simp only [Option.bind_some, Er.isOk, cond_false]
      rw [decide_eq_false (show ¬ ((j : Nat) : Int) < 0 by omega), cond_false, if_pos (show 0 ≤ ((j : Nat) : Int) ∧ ((j : Nat) : Int) < ((f.Pods.length : Nat) : Int) by omega), Int.toNat_natCast]
      rcases hc with hc | hc
      · rw [hc]; rfl
      · rw [hc]; cases (el f.Pods j).Ending <;> rfl
  · rw [e1, hat]
    simp only [Option.bind_some, Er.isOk, cond_true]
    rw [if_pos (show 0 ≤ ((j : Nat) : Int) ∧ ((j : Nat) : Int) < ((f.Pods.length : Nat) : Int) by omega), ref0_CopyObjects_eq _ hf.n hf.ln, ref0_CopyObjects_eq _ hf.p hf.lp, ref0_CopyObjects_eq _ hf.d hf.ld, ref0_CopyObjects_eq _ hf.b hf.lb]
    simp only [Option.bind_some, Int.toNat_natCast]
    rw [if_pos (show 0 ≤ ((j : Nat) : Int) ∧ ((j : Nat) : Int) < ((f.Pods.length : Nat) : Int) by omega), if_pos (show 0 ≤ ((j : Nat) : Int) ∧ ((j : Nat) : Int) < (((f.Pods.set j ({ (el f.Pods j) with Ending := true })).length : Nat) : Int) by rw [List.length_set]; omega), ended_set f.Pods j hj]
    have hok : okTw (f.Pods.set j (ended (el f.Pods j))) := by
      refine ⟨by simp; omega, fun o ho => ?_⟩
      rcases mem_set' ho with ho | rfl
      · exact tp.2 o ho
      · exact (tp.2 (el f.Pods j) (el_mem hj) : (el f.Pods j).Name.size ≤ 9223372036854775807)
    have hlen : (f.Pods.set j (ended (el f.Pods j))).length = f.Pods.length := List.length_set
    have hlab : ∀ o ∈ f.Pods.set j (ended (el f.Pods j)), OkLab o := fun o ho => by
      rcases mem_set' ho with ho | rfl
      · exact hf.lp o ho
      · exact okLab_ended (hf.lp _ (el_mem hj))
    have hrd : ∀ d, rules_Ready ⟨f.Nodes, f.Pods.set j (ended (el f.Pods j)), f.Deploys, f.Budgets⟩ d = some (((f.Pods.countP (readyB d) : Nat) : Int) - (bif readyB d (el f.Pods j) then 1 else 0)) := fun d => by
      rw [Ready_val _ _ (by show (f.Pods.set j _).length ≤ 1000; omega)]
      show some (((f.Pods.set j (ended (el f.Pods j))).countP (readyB d) : Nat) : Int) = _
      rw [count_ended (readyB d) f.Pods j hj (by unfold readyB ended; simp)]
    have hgd : ∀ b, OkLab b → rules_Guarded ⟨f.Nodes, f.Pods.set j (ended (el f.Pods j)), f.Deploys, f.Budgets⟩ b = some (((f.Pods.countP (guardB b.Select) : Nat) : Int) - (bif guardB b.Select (el f.Pods j) then 1 else 0)) := fun b hb => by
      rw [Guarded_val _ _ (by show (f.Pods.set j _).length ≤ 1000; omega) hlab hb]
      show some (((f.Pods.set j (ended (el f.Pods j))).countP (guardB b.Select) : Nat) : Int) = _
      rw [count_ended (guardB b.Select) f.Pods j hj (by unfold guardB ended; simp)]
    rcases sound_cases ⟨f.Nodes, f.Pods.set j (ended (el f.Pods j)), f.Deploys, f.Budgets⟩ (by simp; omega) (by simp; omega) tn hok with ⟨e2, _⟩ | ⟨_, hno⟩
    rotate_left
    · exact absurd (sound_ended f hs hj) hno
    rw [e2]
    simp only [Option.bind_some, Er.isOk, cond_true]
    cases hRd : (el f.Pods j).Ready with
    | false =>
      rw [cond_false, hrd, Ready_val f _ (by omega)]
      have : readyB (el f.Pods j).Deploy (el f.Pods j) = false := by unfold readyB; rw [hRd]; simp
      rw [this]
      simp
    | true =>
      obtain ⟨hD, hB⟩ := hR hRd
      rw [cond_true]
      have hj1 : ∀ r45, law16_at f.Deploys (el f.Pods j).Deploy = some r45 → law16_RulesKept_j1 ((j : Nat) : Int) r45 f f.Nodes f.Pods f.Deploys f.Budgets = some false := fun r45 hr => by
        unfold law16_RulesKept_j1
        rcases at_val f.Deploys (el f.Pods j).Deploy (by omega) with ⟨e3, _⟩ | ⟨k, hk, e3, _, _⟩
        · rw [e3] at hr
          injection hr with hr
          rw [← hr]
          rfl
        · rw [e3] at hr
          injection hr with hr
          rw [← hr, decide_eq_true (show (0 : Int) ≤ ((k : Nat) : Int) by omega), cond_true]
          simp only [Int.toNat_natCast]
          rw [ended_set f.Pods j hj, hrd]
          simp only [Option.bind_some]
          rw [if_pos (show 0 ≤ ((k : Nat) : Int) ∧ ((k : Nat) : Int) < ((f.Deploys.length : Nat) : Int) by omega)]
          simp only [Option.bind_some, law16_held]
          have h3 := hD k hk e3
          have hw2 : IntKind.i64.wrap (min (max (el f.Deploys k).Count (-1125899906842624)) 1125899906842624 - min (max (el f.Deploys k).Slack (-1125899906842624)) 1125899906842624) = clampQ (el f.Deploys k).Count - clampQ (el f.Deploys k).Slack := i64_small (by omega)
          rw [hw2]
          have : readyB (el f.Pods j).Deploy (el f.Pods j) = true := by unfold readyB; rw [hRd, hE]; simp
          rw [this, cond_true, decide_eq_false (by omega)]
      obtain ⟨r45, hr⟩ : ∃ r, law16_at f.Deploys (el f.Pods j).Deploy = some r := by
        rcases at_val f.Deploys (el f.Pods j).Deploy (by omega) with ⟨e3, _⟩ | ⟨k, hk, e3, _, _⟩
        · exact ⟨_, e3⟩
        · exact ⟨_, e3⟩
      rw [hr]
      simp only [Option.bind_some]
      rw [hj1 r45 hr]
      simp only [Option.bind_some, cond_false]
      have hbl := hf.b
      rw [if_pos (by omega), rnd_pass (step := law16_RulesKept_0_s f ((j : Nat) : Int) f.Nodes f.Pods f.Deploys f.Budgets) f.Budgets.length 0 (fun i _ hi => by
        have hi : i < f.Budgets.length := by omega
        have hb := hf.lb _ (el_mem (l := f.Budgets) (i := i) hi)
        have hpl := (hf.lp _ (el_mem (l := f.Pods) (i := j) hj)).1
        unfold law16_RulesKept_0_s law16_RulesKept_j2
        simp only [Int.toNat_natCast]
        rw [if_pos ⟨hb.2, hpl⟩, if_pos hi, ended_set f.Pods j hj, hgd _ hb]
        cases hm : Ak.matchesQ (el f.Budgets i).Select (el f.Pods j).Labels with
        | false => rfl
        | true =>
          have h4 := hB i hi hm
          have : guardB (el f.Budgets i).Select (el f.Pods j) = true := by unfold guardB; rw [hRd, hE, hm]; rfl
          rw [this]
          simp only [cond_true, Option.bind_some, optRes]
          rw [decide_eq_false (by omega)]
          rfl)]
      rfl
end Go.Proofs.Ytcchccdbkpidpaa.Ag
