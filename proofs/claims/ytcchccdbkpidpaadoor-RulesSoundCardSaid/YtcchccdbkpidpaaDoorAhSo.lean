/- RulesSound, in plain Lean: the program's answer is the document's, with its place. -/
import Derived.Test.YtcchccdbkpidpaaDoorAhBd
set_option maxRecDepth 100000
set_option linter.unusedVariables false
set_option linter.unusedSimpArgs false
namespace Go.Proofs.YtcchccdbkpidpaaDoor.Ag
open Go Go.RowKit Go.Proofs.YtcchccdbkpidpaaDoor.Av Go.Proofs.YtcchccdbkpidpaaDoor.AvT Go.Proofs.YtcchccdbkpidpaaDoor.AvS

theorem rnd_rel {ρ1 ρ2 : Type} {s1 : Nat → Unit → Res Unit ρ1} {s2 : Nat → Unit → Res Unit ρ2} {R : ρ1 → ρ2 → Prop} : ∀ (k i : Nat), (∀ j, i ≤ j → j < i + k → (s1 j () = .go () ∧ s2 j () = .go ()) ∨ ∃ x y, s1 j () = .out x ∧ s2 j () = .out y ∧ R x y) →
    (rndN s1 k i () = .go () ∧ rndN s2 k i () = .go ()) ∨ ∃ x y, rndN s1 k i () = .out x ∧ rndN s2 k i () = .out y ∧ R x y
  | 0, i, _ => .inl ⟨rfl, rfl⟩
  | k + 1, i, h => by
    rw [rndN, rndN]
    rcases h i (Nat.le_refl _) (by omega) with ⟨e1, e2⟩ | ⟨x, y, e1, e2, r⟩
    · rw [e1, e2]
      exact rnd_rel k (i + 1) fun j h1 h2 => h j (by omega) (by omega)
    · rw [e1, e2]
      exact .inr ⟨x, y, rfl, rfl, r⟩
theorem tw_upto {ns : List ByteArray} : ∀ k, k ≤ ns.length → (∀ i s, i < k → ns[i]? = some s → hasS (ns.take i) s = false) → twL (ns.take k) (ns.drop k) = twL [] ns
  | 0, _, _ => rfl
  | k + 1, hk, h => by
    have hs : ns[k]? = some ns[k] := List.getElem?_eq_getElem (by omega)
    rw [tw_miss hs (h k _ (by omega) hs)]
    exact tw_upto k (by omega) fun i s hi => h i s (by omega)
theorem twice_eq (l : List Object) (h : l.length ≤ 300) : ref16_twice [] l = some (twQ l) := by
  unfold ref16_twice
  rw [if_pos (by omega)]
  obtain ⟨ns, hns⟩ : ∃ ns, l.map (·.Name) = ns := ⟨_, rfl⟩
  have hnl : ns.length = l.length := by rw [← hns, List.length_map]
  have hget : ∀ i, i < l.length → ns[i]? = some (el l i).Name := fun i hi => by
    rw [← hns, List.getElem?_map, List.getElem?_eq_getElem hi, el_at hi]; rfl
  have hstep : ∀ j, 0 ≤ j → j < 0 + l.length → ref16_twice_0_s l [] j () = bif hasS (ns.take j) (el l j).Name then .out ((j : Nat) : Int) else .go () := by
    intro j _ hj
    unfold ref16_twice_0_s
    rw [List.append_nil, if_pos (by omega)]
    have hln : (l.take j).length ≤ 300 := by rw [List.length_take]; omega
    have hany : hasS (ns.take j) (el l j).Name = (l.take j).any fun o => decide (o.Name = (el l j).Name) := by
      unfold hasS
      rw [← hns, ← List.map_take, List.any_map]
      rfl
    rw [hany]
    rcases find_cases (l.take j) (el l j).Name hln with ⟨e, _, hno⟩ | ⟨q, hq, e, _, hyes⟩
    · rw [e]
      have : ((l.take j).any fun o => decide (o.Name = (el l j).Name)) = false := by
        rw [List.any_eq_false]
        intro o ho
        obtain ⟨q, hq, rfl⟩ := List.getElem_of_mem ho
        have := hno q hq
        rw [el_at hq] at this
        rw [this]
        decide
      rw [this]
      rfl
    · rw [e]
      have : ((l.take j).any fun o => decide (o.Name = (el l j).Name)) = true := by
        rw [List.any_eq_true]
        exact ⟨el (l.take j) q, el_mem hq, hyes⟩
      rw [this]
      simp only [optRes]
      rw [decide_eq_true (by omega), cond_true]; try rfl
  have hT := fun k (hk : k ≤ l.length) => tw_upto (ns := ns) k (by omega)
  rcases rnd_find (p := fun j => hasS (ns.take j) (el l j).Name) l.length 0 hstep with ⟨e, hno⟩ | ⟨j, _, hj, e, hyes, hno⟩
  · rw [e]
    simp only [Res.opt]
    have := hT l.length (Nat.le_refl _) fun i s hi hs => by
      rw [hget i hi] at hs
      obtain rfl := Option.some.inj hs
      exact hno i (Nat.zero_le _) (by omega)
    unfold twQ
    rw [hns, ← this, List.drop_of_length_le (by omega)]
    rfl
  · rw [e]
    simp only [Res.opt]
    have := hT j (by omega) fun i s hi hs => by
      rw [hget i (by omega)] at hs
      obtain rfl := Option.some.inj hs
      exact hno i (Nat.zero_le _) hi
    unfold twQ
    rw [hns, ← this, tw_hit (hget j (by omega)) hyes]
def AtOk (e : Er) (m : Int × Int) : Prop := kit_At e m.1 m.2 = some true
theorem at_ok (n i : Int) (h : 1 ≤ n ∧ n ≤ 36) : AtOk (.at n i) (n, i) := by
  have hn : Err.numOf n = n := if_pos h
  unfold AtOk kit_At
  simp only
  rw [decide_eq_false (by omega), cond_false]
  show (bif decide (Err.numOf n = n) then (bif (placeQ (.at n i)).2 then some (decide ((placeQ (.at n i)).1 = i)) else some false) else some false) = _
  rw [hn, decide_eq_true rfl, cond_true]
  unfold placeQ
  simp only [hn, decide_true, cond_true]
theorem pod_both (f : Fleet) (i : Nat) (hn : f.Nodes.length ≤ 300) : (rules_Sound_0_s f i () = .go () ∧ ref16_Sound_0_s f i () = .go ()) ∨ ∃ x y, rules_Sound_0_s f i () = .out x ∧ ref16_Sound_0_s f i () = .out y ∧ AtOk x y := by
  unfold rules_Sound_0_s ref16_Sound_0_s rules_Sound_j3 ref16_one
  have hj : rules_Sound_j0 f i = ref16_one_j0 (el f.Pods i) := rfl
  rw [hj]
  obtain ⟨b, hb⟩ : ∃ b, ref16_one_j0 (el f.Pods i) = some b := by
    unfold ref16_one_j0
    cases (el f.Pods i).Ready <;> cases (el f.Pods i).Ending <;> cases decide ((el f.Pods i).Phase = (1 : Int)) <;> exact ⟨_, rfl⟩
  rw [hb, Option.bind_some, Option.bind_some]
  cases b with
  | true => exact .inr ⟨.at 14 i, (14, i), rfl, rfl, at_ok _ _ (by omega)⟩
  | false =>
    rw [cond_false, cond_false]
    cases decide ((el f.Pods i).Node = (⟨#[]⟩ : ByteArray)) with
    | true => exact .inl ⟨rfl, rfl⟩
    | false =>
      rw [cond_false, cond_false]
      unfold rules_Sound_j1
      have hs : rules_Sound_1_s f i = ref16_Find_0_s f.Nodes (el f.Pods i).Node := rfl
      rw [hs, if_pos (by omega)]
      rcases find_cases f.Nodes (el f.Pods i).Node hn with ⟨e1, e2, _⟩ | ⟨k, hk, e1, e2, _⟩
      · rw [e1, e2]
        exact .inr ⟨.at 28 i, (28, i), rfl, rfl, at_ok _ _ (by omega)⟩
      · rw [e1, e2]
        simp only [Res.opt, Option.bind_some]
        rw [decide_eq_false (show ¬ ((k : Nat) : Int) < 0 by omega), cond_false, cond_false, if_pos (by omega)]
        unfold rules_Sound_j2 ref16_one_j1
        rw [if_pos (show 0 ≤ ((k : Nat) : Int) ∧ ((k : Nat) : Int) < ((f.Nodes.length : Nat) : Int) by omega), Int.toNat_natCast]
        cases (el f.Pods i).Ready with
        | false => exact .inl ⟨rfl, rfl⟩
        | true =>
          cases (el f.Nodes k).Lost with
          | false => exact .inl ⟨rfl, rfl⟩
          | true => exact .inr ⟨.at 25 i, (25, i), rfl, rfl, at_ok _ _ (by omega)⟩
theorem node_both (f : Fleet) (i : Nat) (hp : f.Pods.length ≤ 300) : (rules_Sound_2_s f i () = .go () ∧ ref16_Sound_1_s f i () = .go ()) ∨ ∃ x y, rules_Sound_2_s f i () = .out x ∧ ref16_Sound_1_s f i () = .out y ∧ AtOk x y := by
  unfold rules_Sound_2_s ref16_Sound_1_s ref16_Sound_j0
  obtain ⟨a, ha⟩ := Used_some f (el f.Nodes i).Name hp
  rw [Used_same, ha]
  simp only [optRes, fits_same]
  cases decide ((el f.Nodes i).Room.Cpu < a.Cpu) with
  | true => exact .inr ⟨.at 23 i, (23, i), rfl, rfl, at_ok _ _ (by omega)⟩
  | false =>
    cases decide ((el f.Nodes i).Room.Mem < a.Mem) with
    | true => exact .inr ⟨.at 23 i, (23, i), rfl, rfl, at_ok _ _ (by omega)⟩
    | false => exact .inl ⟨rfl, rfl⟩
theorem okTw_of {l : List Object} (hl : l.length ≤ 300) (h : ∀ o ∈ l, OkObject o) : okTw l := ⟨by omega, fun o ho => by
  have := h o ho
  unfold OkObject at this
  have := this.2.1
  omega⟩
theorem sound_both (f : Fleet) (h : OkFl f) (o1 : okTw f.Nodes) (o2 : okTw f.Pods) : ∃ e m, rules_Sound f = some e ∧ ref16_Sound [] f = some m ∧ AtOk e m := by
  have hp := h.p
  have hn := h.n
  unfold rules_Sound ref16_Sound
  rw [if_pos o1, twice_eq _ hn, twice_eq _ hp, Option.bind_some]
  by_cases h1 : (0 : Int) ≤ twQ f.Nodes
  · rw [decide_eq_true h1]
    exact ⟨_, _, rfl, rfl, at_ok _ _ (by omega)⟩
  rw [decide_eq_false h1, cond_false, cond_false, if_pos o2, Option.bind_some]
  by_cases h2 : (0 : Int) ≤ twQ f.Pods
  · rw [decide_eq_true h2]
    exact ⟨_, _, rfl, rfl, at_ok _ _ (by omega)⟩
  rw [decide_eq_false h2, cond_false, cond_false, if_pos (show f.Pods.length ≤ 9223372036854775807 by omega), if_pos (show f.Pods.length ≤ 9223372036854775807 by omega)]
  rcases rnd_rel (s1 := rules_Sound_0_s f) (s2 := ref16_Sound_0_s f) (R := AtOk) f.Pods.length 0 (fun j _ _ => pod_both f j hn) with ⟨e1, e2⟩ | ⟨x, y, e1, e2, r⟩
  · rw [e1, e2]
    simp only [Res.opt]
    rw [if_pos (show f.Nodes.length ≤ 9223372036854775807 by omega), if_pos (show f.Nodes.length ≤ 9223372036854775807 by omega)]
    rcases rnd_rel (s1 := rules_Sound_2_s f) (s2 := ref16_Sound_1_s f) (R := AtOk) f.Nodes.length 0 (fun j _ _ => node_both f j hp) with ⟨e3, e4⟩ | ⟨x, y, e3, e4, r⟩
    · rw [e3, e4]
      exact ⟨.ok, (0, 0), rfl, rfl, rfl⟩
    · rw [e3, e4]
      exact ⟨_, _, rfl, rfl, r⟩
  · rw [e1, e2]
    exact ⟨_, _, rfl, rfl, r⟩
theorem pure_RulesSound (f : Fleet) (O0 : OkFleet f) : law16_RulesSound [] f = some true := by
  unfold law16_RulesSound
  rcases big_cases f with h | ⟨h, hl⟩
  · rw [h]; rfl
  have hf := okFl_of O0 hl
  obtain ⟨⟨_, _, g1⟩, ⟨_, _, g2⟩, _, _⟩ := O0
  obtain ⟨e, m, h1, h2, h3⟩ := sound_both f hf (okTw_of hf.n g1) (okTw_of hf.p g2)
  rw [h, Option.bind_some, cond_false, kit_LentFleet_eq f hf, Option.bind_some, h2, Option.bind_some, h1, Option.bind_some, show kit_At e m.1 m.2 = some true from h3, Option.bind_some, cond_true, kit_KeptFleet_eq f hf]
  rfl
end Go.Proofs.YtcchccdbkpidpaaDoor.Ag
