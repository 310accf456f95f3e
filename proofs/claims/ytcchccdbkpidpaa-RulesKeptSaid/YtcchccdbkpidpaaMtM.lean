/- labels.Matches in plain words. -/
import Derived.Test.YtcchccdbkpidpaaMt
import Derived.Test.YtcchccdbkpidpaaAvZ
import Derived.Test.YtcchccdbkpidpaaAvB
set_option linter.unusedVariables false
set_option linter.unusedSimpArgs false
namespace Go.Proofs.Ytcchccdbkpidpaa.Ak
open Go Go.RowKit Go.Proofs.Ytcchccdbkpidpaa.Av Go.Proofs.Ytcchccdbkpidpaa.AvS

/-- Is a label among some? -/
def hasL (x : Label) (b : List Label) : Bool := b.any fun y => (decide (x.Key = y.Key)) && ((decide (x.Value = y.Value)) && true)
/-- Are all among some? -/
def matchesQ (a b : List Label) : Bool := a.all fun x => hasL x b
theorem rnd_hit {ρ : Type} {step : Nat → Unit → Res Unit ρ} {p : Nat → Bool} {v : ρ} : ∀ (k i : Nat), (∀ j, i ≤ j → j < i + k → step j () = bif p j then .out v else .go ()) → rndN step k i () = bif (List.range' i k).any p then .out v else .go ()
  | 0, i, _ => rfl
  | k + 1, i, h => by
    rw [rndN, h i (Nat.le_refl _) (by omega), List.range'_succ, List.any_cons]
    cases hp : p i with
    | true => rfl
    | false => simpa using rnd_hit k (i + 1) fun j h1 h2 => h j (by omega) (by omega)
theorem any_el {α : Type} [Inhabited α] (l : List α) (q : α → Bool) : ((List.range' 0 l.length).any fun j => q (el l j)) = l.any q := by
  have := List.any_map (f := fun j => el l j) (p := q) (l := List.range' 0 l.length)
  rw [map_el] at this
  rw [this]
  rfl
theorem common_eq (a b : List Label) (ha : a.length ≤ 4398046511000) (hb : b.length ≤ 4398046511000) : labels_Common a b = some (a.filter fun x => hasL x b) := by
  unfold labels_Common
  rw [if_pos (by omega)]
  obtain ⟨s', e, hs⟩ := rnd_inv (step := labels_Common_0_s b a) (I := fun j (s : List Label) => s = (a.take j).filter fun x => hasL x b) a.length 0 [] rfl (fun j s _ hj hI => by
    subst hI
    have hlen : ((a.take j).filter fun x => hasL x b).length ≤ 4398046511000 := Nat.le_trans (List.length_filter_le _ _) (by rw [List.length_take]; omega)
    unfold labels_Common_0_s
    rw [if_pos (by omega)]
    have htake : a.take (j + 1) = a.take j ++ [el a j] := by
      rw [List.take_succ_eq_append_getElem (by omega), el_at (by omega)]
    rw [rnd_hit (p := fun q => ((decide ((el a j).Key = (el b q).Key)) && ((decide ((el a j).Value = (el b q).Value)) && true))) (v := (((a.take j).filter fun x => hasL x b) ++ [el a j])) b.length 0 (fun q _ hq => by
      unfold labels_Common_1_s
      rw [if_pos ⟨by simp only [List.length_append, List.length_cons, List.length_nil]; omega, by simp only [List.length_append, List.length_cons, List.length_nil]; unfold maxLen; omega⟩])]
    rw [any_el b (fun y => (decide ((el a j).Key = y.Key)) && ((decide ((el a j).Value = y.Value)) && true))]
    show ∃ s', Res.res (bif hasL (el a j) b then _ else _) _ _ = _ ∧ _
    rw [htake, List.filter_append]
    cases hh : hasL (el a j) b with
    | true => exact ⟨_, rfl, by simp [hh]⟩
    | false => exact ⟨_, rfl, by simp [hh]⟩)
  rw [e, hs, Nat.zero_add, List.take_length]
  rfl
theorem lstOf_inj {a a' pa pa' : List Label} (h : lstOf 2 eLabel a pa = lstOf 2 eLabel a' pa') : a = a' := by
  unfold lstOf at h
  simp only [AV.lst.injEq, true_and] at h
  obtain ⟨h1, h2, h3⟩ := h
  apply List.ext_getElem?
  intro i
  by_cases hi : i < a.length
  · have := congrFun h3 i
    rw [nrm_at (by omega), nrm_at (by omega), el_left hi, el_left (by omega)] at this
    have hl : el a i = el a' i := by
      simp only [eLabel, List.cons.injEq, AV.v.injEq, Value.string.injEq, and_true] at this
      obtain ⟨k1, k2⟩ := this
      cases hx : el a i with
      | mk x1 x2 =>
        cases hy : el a' i with
        | mk y1 y2 =>
          rw [hx, hy] at k1 k2
          simp only at k1 k2
          rw [k1, k2]
    rw [el_at hi, el_at (by omega)] at hl
    rw [List.getElem?_eq_getElem hi, List.getElem?_eq_getElem (by omega), hl]
  · rw [List.getElem?_eq_none (by omega), List.getElem?_eq_none (by omega)]
open Classical in
/-- What Matches answers. -/
noncomputable def matchesM (ys : List AV) : Option (AV × List Blk) :=
  if h : ∃ q : List Label × List Label × List Label × List Label × List Label, ys = [lstOf 2 eLabel q.1 q.2.2.1, lstOf 2 eLabel q.2.1 q.2.2.2.1] ∧ labels_Common q.1 q.2.1 = some q.2.2.2.2 then
    some (.v (.bool (decide (((Classical.choose h).2.2.2.2.length : Int) = ((Classical.choose h).1.length : Int)))), []) else none
theorem matches_models : Models Try.prog G0 29 matchesM := by
  refine models_of_calls' hG0 fun S w bs vs r Hr hvs himm hg e => ?_
  unfold matchesM at e
  split at e
  · rename_i h
    simp only [Option.some.injEq, Prod.mk.injEq] at e
    obtain ⟨rfl, rfl⟩ := e
    obtain ⟨h1, h2⟩ := Classical.choose_spec h
    refine ⟨_, rfl, rfl, ?_⟩
    rw [h1] at hvs
    obtain ⟨u, us, rfl, hu, hr⟩ := hvs.tail
    obtain ⟨v, us, rfl, hv, hr2⟩ := hr.tail
    obtain rfl := hr2.nil_inv
    exact matches_calls h2 hvs himm hg
  · cases e
theorem matchesM_eq (pa pb a b : List Label) (h : a.length ≤ 4398046511000 ∧ b.length ≤ 4398046511000) : matchesM [lstOf 2 eLabel a pa, lstOf 2 eLabel b pb] = some (.v (.bool (matchesQ a b)), []) := by
  have hx : ∃ q : List Label × List Label × List Label × List Label × List Label, [lstOf 2 eLabel a pa, lstOf 2 eLabel b pb] = [lstOf 2 eLabel q.1 q.2.2.1, lstOf 2 eLabel q.2.1 q.2.2.2.1] ∧ labels_Common q.1 q.2.1 = some q.2.2.2.2 :=
    ⟨(a, b, pa, pb, a.filter fun x => hasL x b), rfl, common_eq a b h.1 h.2⟩
  unfold matchesM
  rw [dif_pos hx]
  obtain ⟨h1, h2⟩ := Classical.choose_spec hx
  obtain ⟨q, hq⟩ : ∃ q, Classical.choose hx = q := ⟨_, rfl⟩
  rw [hq] at h1 h2 ⊢
  simp only [List.cons.injEq, and_true] at h1
  have ha := lstOf_inj h1.1
  have hb := lstOf_inj h1.2
  rw [← ha, ← hb, common_eq a b h.1 h.2] at h2
  rw [← ha, ← Option.some.inj h2]
  have : decide ((((a.filter fun x => hasL x b).length : Nat) : Int) = ((a.length : Nat) : Int)) = matchesQ a b := by
    unfold matchesQ
    rw [Bool.eq_iff_iff, decide_eq_true_eq, List.all_eq_true]
    rw [show ((((a.filter fun x => hasL x b).length : Nat) : Int) = ((a.length : Nat) : Int)) ↔ (a.filter fun x => hasL x b).length = a.length by omega]
    exact List.length_filter_eq_length_iff
  rw [this]
end Go.Proofs.Ytcchccdbkpidpaa.Ak
