/- RollEnds, in plain Lean. -/
import Derived.Test.YtnoaglgjhgnnfaaRo4
import Derived.Test.YtnoaglgjhgnnfaaAg5
set_option maxRecDepth 100000
set_option linter.unusedVariables false
set_option linter.unusedSimpArgs false
namespace Go.Proofs.Ytnoaglgjhgnnfaa.Ag
open Go Go.RowKit Go.Proofs.Ytnoaglgjhgnnfaa.Av Go.Proofs.Ytnoaglgjhgnnfaa.AvT Go.Proofs.Ytnoaglgjhgnnfaa.AvS

def mineF (nm dn : ByteArray) (o : Object) (s : Bool) : Res Bool Empty := optRes (bif s then (some true) else (bif (decide (o.Deploy = dn)) then (some (decide (o.Name = nm))) else (some false))) fun d124 => .go d124
theorem mine_go (nm dn : ByteArray) : ∀ (l : List Object) (s : Bool), foldR (mineF nm dn) l s = .go (s || l.any fun o => decide (o.Deploy = dn) && decide (o.Name = nm))
  | [], s => by simp [foldR]
  | o :: l, s => by
    rw [foldR, mineF]
    cases s with
    | true =>
      simp only [cond_true, optRes]
      rw [mine_go nm dn l true]
      rfl
    | false =>
      cases hd : decide (o.Deploy = dn) with
      | true =>
        simp only [cond_true, cond_false, optRes]
        rw [mine_go nm dn l _, List.any_cons, hd]
        rfl
      | false =>
        simp only [cond_true, cond_false, optRes]
        rw [mine_go nm dn l _, List.any_cons, hd]
        rfl
def inF (nm dn : ByteArray) (p : Object) (s : Int) : Res Int Empty := optRes (Option.bind (bif (decide (p.Deploy = dn)) then (some (decide (p.Set = nm))) else (some false)) fun d296 => bif d296 then (some (IntKind.i64.wrap (s + (1 : Int)))) else (some s)) fun d301 => .go d301
theorem in_go (nm dn : ByteArray) : ∀ (l : List Object) (a : Int), 0 ≤ a → a + l.length ≤ 1000000 → foldR (inF nm dn) l a = .go (a + cnt1 l nm dn)
  | [], a, _, _ => by simp [foldR, cnt1]
  | p :: l, a, h0, h => by
    simp only [List.length_cons] at h
    rw [foldR, inF, i64_small (by omega)]
    unfold cnt1
    rw [List.countP_cons]
    cases decide (p.Deploy = dn) with
    | false =>
      simp only [cond_false, Option.bind_some, optRes, Bool.and_false, Bool.false_eq_true, if_false, Nat.add_zero]
      exact in_go nm dn l a h0 (by omega)
    | true =>
      cases decide (p.Set = nm) with
      | false =>
        simp only [cond_true, cond_false, Option.bind_some, optRes, Bool.false_and, Bool.false_eq_true, if_false, Nat.add_zero]
        exact in_go nm dn l a h0 (by omega)
      | true =>
        simp only [cond_true, Option.bind_some, optRes, Bool.and_true, if_true]
        refine (in_go nm dn l (a + 1) (by omega) (by omega)).trans ?_
        unfold cnt1
        simp only [Res.go.injEq]
        omega
theorem full_cases (ff : Fleet) (d : Object) (sets : List Object) (hp : ff.Pods.length ≤ 1000) (hs : sets.length ≤ 1000) : law26_full ff d sets = some false ∨ (law26_full ff d sets = some true ∧
    (∀ p ∈ ff.Pods, p.Deploy = d.Name → (∃ o ∈ sets, o.Deploy = d.Name ∧ o.Name = p.Set) ∧ p.Ready = true ∧ p.Ending = false) ∧ ∀ o ∈ sets, o.Deploy = d.Name → cnt1 ff.Pods o.Name d.Name = o.Count) := by
  unfold law26_full
  rw [if_pos (by omega), if_pos (by omega)]
  rcases rnd_or (step := law26_full_0_s sets ff d) (Good := fun i => (el ff.Pods i).Deploy = d.Name → (∃ o ∈ sets, o.Deploy = d.Name ∧ o.Name = (el ff.Pods i).Set) ∧ (el ff.Pods i).Ready = true ∧ (el ff.Pods i).Ending = false) (r := false) ff.Pods.length 0 (fun j _ hj => by
    unfold law26_full_0_s law26_full_j2
    by_cases c1 : (el ff.Pods j).Deploy = d.Name
    · rw [decide_eq_true c1, cond_true, if_pos (by omega)]
      have e : law26_full_1_s sets j ff d = fun k st => mineF (el ff.Pods j).Set d.Name (el sets k) st := rfl
      rw [e, rnd_fold, mine_go, Bool.false_or]
      simp only [Res.opt]
      unfold law26_full_j1
      cases hm : sets.any fun o => decide (o.Deploy = d.Name) && decide (o.Name = (el ff.Pods j).Set) with
      | false => exact .inr rfl
      | true =>
        rw [cond_true]
        cases hr : (el ff.Pods j).Ready with
        | false => exact .inr rfl
        | true =>
          cases hE : (el ff.Pods j).Ending with
          | true => exact .inr rfl
          | false =>
            refine .inl ⟨rfl, fun _ => ⟨?_, rfl, rfl⟩⟩
            obtain ⟨o, ho, hq⟩ := List.any_eq_true.1 hm
            rw [Bool.and_eq_true] at hq
            exact ⟨o, ho, of_decide_eq_true hq.1, of_decide_eq_true hq.2⟩
    · rw [decide_eq_false c1]
      exact .inl ⟨rfl, fun q => absurd q c1⟩) with ⟨e1, hg⟩ | e1
  · rw [e1]
    simp only [Res.opt]
    rcases rnd_or (step := law26_full_2_s sets ff d) (Good := fun i => (el sets i).Deploy = d.Name → cnt1 ff.Pods (el sets i).Name d.Name = (el sets i).Count) (r := false) sets.length 0 (fun j _ hj => by
      unfold law26_full_2_s
      have e : law26_full_3_s sets j ff d = fun k st => inF (el sets j).Name d.Name (el ff.Pods k) st := rfl
      rw [e, rnd_fold, in_go _ _ _ _ (by omega) (by omega), Int.zero_add]
      simp only [Res.res]
      unfold law26_full_j5
      by_cases c1 : (el sets j).Deploy = d.Name
      · rw [decide_eq_true c1, cond_true]
        by_cases c2 : cnt1 ff.Pods (el sets j).Name d.Name = (el sets j).Count
        · rw [decide_eq_true c2]
          exact .inl ⟨rfl, fun _ => c2⟩
        · rw [decide_eq_false c2]
          exact .inr rfl
      · rw [decide_eq_false c1]
        exact .inl ⟨rfl, fun q => absurd q c1⟩) with ⟨e2, hg2⟩ | e2
    · rw [e2]
      refine .inr ⟨rfl, fun p hp => ?_, fun o ho => ?_⟩
      · obtain ⟨i, hi, rfl⟩ := List.getElem_of_mem hp
        have := hg i (Nat.zero_le _) (by omega)
        rwa [el_at hi] at this
      · obtain ⟨i, hi, rfl⟩ := List.getElem_of_mem ho
        have := hg2 i (Nat.zero_le _) (by omega)
        rwa [el_at hi] at this
    · rw [e2]
      exact .inl rfl
  · rw [e1]
    exact .inl rfl
theorem sumH_mem {l : List Object} {o : Object} (h : o ∈ l) : heldQ o.Count ≤ sumH l := by
  induction l with
  | nil => cases h
  | cons x l ih =>
    have h1 := sumH_lo l
    have h2 := heldQ_lo x.Count
    have e : sumH (x :: l) = heldQ x.Count + sumH l := rfl
    rw [e]
    rcases List.mem_cons.1 h with h | h
    · rw [h]; omega
    · have := ih h
      omega
theorem sumH_two {l : List Object} {o e : Object} (ho : o ∈ l) (he : e ∈ l) (hn : o.Name ≠ e.Name) : heldQ o.Count + heldQ e.Count ≤ sumH l := by
  induction l with
  | nil => cases ho
  | cons x l ih =>
    have h2 := heldQ_lo x.Count
    have e0 : sumH (x :: l) = heldQ x.Count + sumH l := rfl
    rw [e0]
    rcases List.mem_cons.1 ho with ho1 | ho1
    · rcases List.mem_cons.1 he with he1 | he1
      · exact absurd (by rw [ho1, he1]) hn
      · have := sumH_mem he1
        rw [ho1]
        omega
    · rcases List.mem_cons.1 he with he1 | he1
      · have := sumH_mem ho1
        rw [he1]
        omega
      · have := ih ho1 he1
        omega
/-- Pods, one by one, by the sets that they belong to. -/
def sumP (P : List Object) : List Object → Nat
  | [] => 0
  | o :: l => P.countP (fun p => decide (p.Set = o.Name)) + sumP P l
theorem sumP_filter (P : List Object) (nm : ByteArray) : ∀ (l : List Object), (∀ o ∈ l, o.Name ≠ nm) → sumP (P.filter fun p => !decide (p.Set = nm)) l = sumP P l
  | [], _ => rfl
  | o :: l, h => by
    unfold sumP
    rw [sumP_filter P nm l fun x hx => h x (List.mem_cons_of_mem _ hx), List.countP_filter]
    congr 1
    refine congrArg (fun q => List.countP q P) (funext fun p => ?_)
    by_cases c : p.Set = o.Name
    · have : p.Set ≠ nm := fun q => h o List.mem_cons_self (c.symm.trans q)
      rw [decide_eq_true c, decide_eq_false this]
      rfl
    · rw [decide_eq_false c]
      rfl
theorem sumP_all : ∀ (l P : List Object), l.Pairwise (fun a b => a.Name ≠ b.Name) → (∀ p ∈ P, ∃ o ∈ l, o.Name = p.Set) → P.length = sumP P l
  | [], P, _, h => by
    cases P with
    | nil => rfl
    | cons p P => obtain ⟨o, ho, _⟩ := h p List.mem_cons_self; cases ho
  | x :: l, P, hp, h => by
    have hp' := List.pairwise_cons.1 hp
    unfold sumP
    rw [← sumP_filter P x.Name l fun o ho => (hp'.1 o ho).symm, ← sumP_all l _ hp'.2 fun p hq => by
      have hq' := List.mem_filter.1 hq
      obtain ⟨o, ho, e⟩ := h p hq'.1
      rcases List.mem_cons.1 ho with rfl | ho
      · have := hq'.2
        rw [e] at this
        simp at this
      · exact ⟨o, ho, e⟩]
    rw [List.length_eq_countP_add_countP (p := fun p => decide (p.Set = x.Name)) (l := P)]
    congr 1
    rw [List.countP_eq_length_filter]
    congr 1
    refine congrArg (fun q => List.filter q P) (funext fun p => ?_)
    cases decide (p.Set = x.Name) <;> rfl
theorem sh_nil (pods : List Object) (dn nm : ByteArray) : ∀ (l : List Object) (a : Int), shQ pods dn nm l a = [] → ∀ o ∈ l, o.Name = nm ∨ ¬ 0 < kQ pods dn o a
  | [], a, _ => fun o ho => by cases ho
  | x :: l, a, h => fun o ho => by
    unfold shQ at h
    split at h
    · rename_i c
      rcases List.mem_cons.1 ho with rfl | ho
      · exact .inl c
      · exact sh_nil pods dn nm l a h o ho
    · split at h
      · cases h
      · rename_i c
        rcases List.mem_cons.1 ho with rfl | ho
        · exact .inr c
        · exact sh_nil pods dn nm l a h o ho
theorem sh_own (pods : List Object) (dn nm : ByteArray) : ∀ (l : List Object) (a : Int), (∀ o ∈ l, o.Name = nm) → shQ pods dn nm l a = []
  | [], a, _ => rfl
  | x :: l, a, h => by
    unfold shQ
    rw [if_pos (h x List.mem_cons_self)]
    exact sh_own pods dn nm l a fun o ho => h o (List.mem_cons_of_mem _ ho)
theorem done_all (dn nm : ByteArray) : ∀ (l : List Object) (a : Int), 0 ≤ a → a + l.length ≤ 1000000 → (∀ p ∈ l, p.Deploy = dn → p.Ready = true ∧ p.Ending = false ∧ p.Set = nm) → foldR (doneF dn nm) l a = .go (a + ((l.filter fun p => decide (p.Deploy = dn)).length : Int))
  | [], a, _, _, _ => by simp [foldR]
  | p :: l, a, h0, h1, h => by
    simp only [List.length_cons] at h1
    have ih := fun a h0 h1 => done_all dn nm l a h0 h1 fun q hq => h q (List.mem_cons_of_mem _ hq)
    rw [foldR]
    unfold doneF
    by_cases c : p.Deploy = dn
    · obtain ⟨g1, g2, g3⟩ := h p List.mem_cons_self c
      rw [decide_eq_true c, g1, g2, decide_eq_true g3, List.filter_cons_of_pos (p := fun p : Object => decide (p.Deploy = dn)) (decide_eq_true c), i64_small (by omega)]
      refine (ih (a + 1) (by omega) (by omega)).trans ?_
      simp only [Res.go.injEq, List.length_cons]
      omega
    · rw [decide_eq_false c, List.filter_cons_of_neg (p := fun p : Object => decide (p.Deploy = dn)) (by rw [decide_eq_false c]; decide)]
      exact ih a h0 (by omega)
/-- Where it is done, nothing is asked for. -/
theorem done_nothing (pods : List Object) (d : Object) (s : List Object) (hl : s.length ≤ 1000) (h : doneQ pods d s = true) : oneQ pods d s = [] := by
  unfold doneQ at h
  split at h
  · cases h
  rename_i h0
  split at h
  · cases h
  rename_i h1
  split at h
  · cases h
  rename_i h2
  have hn := (odd2_eq (nmQ d) s (by omega)).2 (by cases ho : odd2 (nmQ d) s with | false => rfl | true => exact absurd ho h2)
  have h1' : heldQ (el s (j0Q (nmQ d) s).toNat).Count = heldQ d.Count := Decidable.not_not.1 h1
  unfold oneQ
  split
  · rfl
  rw [if_pos (by omega)]
  unfold growQ cutQ
  rw [if_neg (show ¬ (heldQ (el s (j0Q (nmQ d) s).toNat).Count < heldQ d.Count ∧ 0 < roomQ d s) by omega), if_neg (show ¬ heldQ d.Count < heldQ (el s (j0Q (nmQ d) s).toNat).Count by omega), sh_own pods d.Name (nmQ d) s _ hn]
  rw [if_neg (by simp), if_neg (by simp), if_neg (by simp)]
  have : s.filter (delP pods d.Name (nmQ d)) = [] := by
    rw [List.filter_eq_nil_iff]
    intro o ho
    unfold delP
    rw [decide_eq_true (hn o ho)]
    simp
  rw [this]
  rfl
theorem pure_RollEnds (ff : Fleet) (d : Object) (sets : List Object) (O0 : OkFleet ff) (O1 : OkObject d) (O2 : sets.length * 312 ≤ 140737488351232 ∧ sets.length ≤ 9223372036854775807 ∧ ∀ x ∈ sets, OkObject x) : law26_RollEnds ff d sets = some true := by
  unfold law26_RollEnds law26_RollEnds_j0 law26_works
  simp only [Option.bind_some, cond_true]
  rcases big_cases ff sets with h | ⟨h, hp, hdl, hs⟩
  · rw [h]; rfl
  rw [h]
  simp only [Option.bind_some, cond_false]
  rcases modest_cases d sets (by omega) with h | ⟨h, hd, hlow, hun⟩
  · rw [h]; rfl
  rw [h]
  simp only [Option.bind_some, Bool.not_true, cond_false]
  have ok : ∀ o ∈ sets, OkLb o := fun o ho => okLb_of (O2.2.2 o ho)
  have hpw := pairwise_of sets hun
  have hlow' : ∀ o ∈ sets, lowC o := fun o ho => by
    obtain ⟨i, hi, rfl⟩ := List.getElem_of_mem ho
    have := hlow i hi
    rwa [el_at hi] at this
  rw [One_eq ff d sets O1 (by omega) (by omega) ok, Done_eq ff d sets O1 (by omega) (by omega)]
  simp only [Option.bind_some]
  have hsl : (ownS d sets).length ≤ 100 := Nat.le_trans (ownS_len d sets) hs
  cases hD : doneQ ff.Pods d (ownS d sets) with
  | true =>
    rw [cond_true, done_nothing ff.Pods d (ownS d sets) (by omega) hD]
    rfl
  | false =>
    rw [cond_false]
    cases hpa : d.Paused with
    | true => rfl
    | false =>
      rw [cond_false]
      unfold lowD at hd
      rw [i64_small (by omega)]
      by_cases hss : d.Surge + d.Slack = 0
      · rw [decide_eq_true hss]; rfl
      rw [decide_eq_false hss, cond_false]
      rcases full_cases ff d sets (by omega) (by omega) with hf | ⟨hf, F1, F2⟩
      · rw [hf]; rfl
      rw [hf]
      simp only [Option.bind_some, cond_true]
      rw [dec_len]
      refine congrArg some (decide_eq_true ?_)
      refine Nat.pos_of_ne_zero fun hz => ?_
      have hnil : oneQ ff.Pods d (ownS d sets) = [] := List.eq_nil_of_length_eq_zero hz
      -- what the sets and pods are
      have hmem : ∀ o ∈ ownS d sets, o ∈ sets ∧ o.Deploy = d.Name := fun o ho => ownS_mem ho
      have hsp : (ownS d sets).Pairwise fun a b => a.Name ≠ b.Name := hpw.filter _
      have hcnt : ∀ o ∈ ownS d sets, cnt1 ff.Pods o.Name d.Name = heldQ o.Count := fun o ho => by
        have h1 := F2 o (hmem o ho).1 (hmem o ho).2
        have h2 := hlow' o (hmem o ho).1
        unfold lowC at h2
        rw [h1]
        unfold heldQ
        omega
      have hP : ∀ p ∈ ownS d ff.Pods, (∃ o ∈ ownS d sets, o.Name = p.Set) ∧ p.Ready = true ∧ p.Ending = false := fun p hp => by
        obtain ⟨h1, h2⟩ := ownS_mem hp
        obtain ⟨⟨o, ho, e1, e2⟩, h3⟩ := F1 p h1 h2
        exact ⟨⟨o, List.mem_filter.2 ⟨ho, decide_eq_true e1⟩, e2⟩, h3⟩
      have hlenP : ((ownS d ff.Pods).length : Int) = sumH (ownS d sets) := by
        rw [sumP_all (ownS d sets) (ownS d ff.Pods) hsp fun p hp => (hP p hp).1]
        have key : ∀ l : List Object, (∀ o ∈ l, cnt1 ff.Pods o.Name d.Name = heldQ o.Count) → ((sumP (ownS d ff.Pods) l : Nat) : Int) = sumH l := by
          intro l
          induction l with
          | nil => intro _; rfl
          | cons o l ih =>
            intro h
            have h1 := h o List.mem_cons_self
            have h2 := ih fun x hx => h x (List.mem_cons_of_mem _ hx)
            unfold sumP sumH
            rw [← h1, ← h2]
            have : cnt1 ff.Pods o.Name d.Name = ((List.countP (fun p => decide (p.Set = o.Name)) (ownS d ff.Pods) : Nat) : Int) := by
              unfold cnt1 ownS
              rw [List.countP_filter]
            rw [this]
            omega
        exact key _ hcnt
      have hrd : rdQ ff.Pods d.Name = sumH (ownS d sets) := by
        rw [← rdQ_own, ← hlenP]
        unfold rdQ
        rw [List.countP_eq_length.2 fun p hp => by
          obtain ⟨_, h2, h3⟩ := hP p hp
          rw [h2, h3, decide_eq_true (ownS_mem hp).2]
          rfl]
      obtain ⟨_, hc⟩ := j0_spec (nmQ d) (ownS d sets) (by omega)
      have hnil0 := hnil
      unfold oneQ at hnil
      rw [if_neg (by rw [hpa]; decide)] at hnil
      rcases hc with ⟨e, _⟩ | ⟨j, hj, e, hn⟩
      · rw [if_neg (by omega)] at hnil
        cases hnil
      have h0 : 0 ≤ j0Q (nmQ d) (ownS d sets) := by omega
      rw [if_pos h0] at hnil
      have hob : el (ownS d sets) (j0Q (nmQ d) (ownS d sets)).toNat ∈ ownS d sets := el_mem' (by omega)
      have hnm : (el (ownS d sets) (j0Q (nmQ d) (ownS d sets)).toNat).Name = nmQ d := by rw [e, Int.toNat_natCast]; exact hn
      have hDq := hD
      unfold doneQ at hDq
      rw [if_neg (by omega)] at hDq
      generalize el (ownS d sets) (j0Q (nmQ d) (ownS d sets)).toNat = o at hnil hob hnm hDq
      have hlo := hlow' o (hmem o hob).1
      unfold lowC at hlo
      have e1 : heldQ o.Count = o.Count := by unfold heldQ; omega
      have e2 : heldQ d.Count = d.Count := by unfold heldQ; omega
      have e3 : heldQ d.Surge = d.Surge := by unfold heldQ; omega
      have e4 : heldQ d.Slack = d.Slack := by unfold heldQ; omega
      split at hnil
      · rename_i g; rw [hnil] at g; simp at g
      rename_i g1
      split at hnil
      · rename_i g; rw [hnil] at g; simp at g
      rename_i g2
      split at hnil
      · rename_i g; rw [hnil] at g; simp at g
      rename_i g3
      have hsh : shQ ff.Pods d.Name (nmQ d) (ownS d sets) (spareQ ff.Pods d) = [] := List.eq_nil_of_length_eq_zero (by omega)
      have hk := sh_nil _ _ _ _ _ hsh
      have hdel : ∀ x ∈ ownS d sets, ¬ delP ff.Pods d.Name (nmQ d) x = true := List.filter_eq_nil_iff.1 (List.map_eq_nil_iff.1 hnil)
      have hg1 : ¬ (o.Count < d.Count ∧ 0 < roomQ d (ownS d sets)) := fun q => by
        unfold growQ at g1
        rw [e1, e2, if_pos q] at g1
        simp at g1
      have hg2 : ¬ d.Count < o.Count := fun q => by
        unfold cutQ at g2
        rw [e1, e2, if_pos q] at g2
        simp at g2
      have hroom : roomQ d (ownS d sets) = d.Count + d.Surge - sumH (ownS d sets) := by
        unfold roomQ
        rw [e2, e3]
      -- an elder set has pods, and none can be spared
      have elder : ∀ x ∈ ownS d sets, x.Name ≠ nmQ d → 0 < x.Count ∧ sumH (ownS d sets) ≤ d.Count - d.Slack := fun x hx hne => by
        have hxl := hlow' x (hmem x hx).1
        unfold lowC at hxl
        have ex : heldQ x.Count = x.Count := by unfold heldQ; omega
        have hx0 : 0 < x.Count := by
          refine Decidable.byContradiction fun hz => hdel x hx ?_
          unfold delP
          rw [decide_eq_false hne, cond_false, decide_eq_true (show heldQ x.Count = 0 by omega), cond_true, hcnt x hx, decide_eq_true (show heldQ x.Count = 0 by omega)]
        refine ⟨hx0, ?_⟩
        rcases hk x hx with q | q
        · exact absurd q hne
        · have hfr := free_lo ff.Pods d.Name x
          unfold kQ spareQ at q
          rw [ex, hrd, e2, e4] at q
          omega
      by_cases hel : ∃ x ∈ ownS d sets, x.Name ≠ nmQ d
      · obtain ⟨x, hx, hne⟩ := hel
        obtain ⟨q1, q2⟩ := elder x hx hne
        have hxl := hlow' x (hmem x hx).1
        unfold lowC at hxl
        have ex : heldQ x.Count = x.Count := by unfold heldQ; omega
        have hsum := sumH_two hob hx (by rw [hnm]; exact fun q => hne q.symm)
        rw [e1, ex] at hsum
        rw [hroom] at hg1
        omega
      · have hall : ∀ x ∈ ownS d sets, x.Name = nmQ d := fun x hx => Decidable.byContradiction fun q => hel ⟨x, hx, q⟩
        have hone : ownS d sets = [o] := by
          cases hs0 : ownS d sets with
          | nil => rw [hs0] at hob; cases hob
          | cons a l =>
            rw [hs0] at hsp hall hob
            have hl0 : l = [] := by
              cases l with
              | nil => rfl
              | cons b l =>
                have := (List.pairwise_cons.1 hsp).1 b List.mem_cons_self
                exact absurd ((hall a List.mem_cons_self).trans (hall b (List.mem_cons_of_mem _ List.mem_cons_self)).symm) this
            subst hl0
            simp only [List.mem_singleton] at hob
            rw [hob]
        have hsum : sumH (ownS d sets) = o.Count := by rw [hone]; unfold sumH sumH; omega
        rw [hroom, hsum] at hg1
        have hcc : o.Count = d.Count := by omega
        rw [if_neg (show ¬ (heldQ o.Count ≠ heldQ d.Count) from fun q => q (by rw [hcc]))] at hDq
        have hodd : odd2 (nmQ d) (ownS d sets) = false := by
          cases ho : odd2 (nmQ d) (ownS d sets) with
          | false => rfl
          | true =>
            have hx := (odd2_eq (nmQ d) (ownS d sets) (by omega)).1
            rw [ho] at hx
            unfold roll_Done_j2 at hx
            rw [if_pos (by omega), rnd_pass (ownS d sets).length 0 (fun k _ hk => by
              unfold roll_Done_2_s
              rw [decide_eq_true (hall _ (el_mem' (by omega)))]
              rfl)] at hx
            cases hx
        rw [if_neg (by rw [hodd]; decide), done_all d.Name (nmQ d) ff.Pods 0 (by omega) (by omega) (fun p hp hpd => by
          obtain ⟨⟨x, hx, ex⟩, h2, h3⟩ := hP p (List.mem_filter.2 ⟨hp, decide_eq_true hpd⟩)
          exact ⟨h2, h3, by rw [← ex]; exact hall x hx⟩)] at hDq
        have hl2 : (((ff.Pods.filter fun p => decide (p.Deploy = d.Name)).length : Nat) : Int) = o.Count := hlenP.trans hsum
        simp only [] at hDq
        rw [hl2, decide_eq_true (by omega)] at hDq
        cases hDq
end Go.Proofs.Ytnoaglgjhgnnfaa.Ag
