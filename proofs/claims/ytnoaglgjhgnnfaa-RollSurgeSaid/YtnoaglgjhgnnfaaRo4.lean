/- RollSurge, in plain Lean. -/
import Derived.Test.YtnoaglgjhgnnfaaRo3
set_option maxRecDepth 100000
set_option linter.unusedVariables false
set_option linter.unusedSimpArgs false
namespace Go.Proofs.Ytnoaglgjhgnnfaa.Ag
open Go Go.RowKit Go.Proofs.Ytnoaglgjhgnnfaa.Av Go.Proofs.Ytnoaglgjhgnnfaa.AvT Go.Proofs.Ytnoaglgjhgnnfaa.AvS

theorem rnd_or {ρ : Type} {step : Nat → Unit → Res Unit ρ} {Good : Nat → Prop} {r : ρ} : ∀ (k i : Nat), (∀ j, i ≤ j → j < i + k → (step j () = .go () ∧ Good j) ∨ step j () = .out r) →
    (rndN step k i () = .go () ∧ ∀ j, i ≤ j → j < i + k → Good j) ∨ rndN step k i () = .out r
  | 0, i, h => .inl ⟨rfl, fun j h1 h2 => by omega⟩
  | k + 1, i, h => by
    rw [rndN]
    rcases h i (Nat.le_refl _) (by omega) with ⟨e, hg⟩ | e
    · rw [e]
      rcases rnd_or k (i + 1) (fun j h1 h2 => h j (by omega) (by omega)) with ⟨e2, hg2⟩ | e2
      · refine .inl ⟨e2, fun j h1 h2 => ?_⟩
        rcases Nat.eq_or_lt_of_le h1 with rfl | h3
        · exact hg
        · exact hg2 j h3 (by omega)
      · exact .inr e2
    · rw [e]
      exact .inr rfl
/-- Counts from 0 to 1000. -/
def lowC (o : Object) : Prop := 0 ≤ o.Count ∧ o.Count ≤ 1000
def lowD (d : Object) : Prop := (0 ≤ d.Count ∧ d.Count ≤ 1000) ∧ (0 ≤ d.Surge ∧ d.Surge ≤ 1000) ∧ (0 ≤ d.Slack ∧ d.Slack ≤ 1000)
theorem modest_cases (d : Object) (sets : List Object) (hs : sets.length ≤ 1000) : law26_modest d sets = some false ∨ (law26_modest d sets = some true ∧ lowD d ∧ (∀ i, i < sets.length → lowC (el sets i)) ∧ ∀ i k, i < sets.length → k < i → (el sets k).Name ≠ (el sets i).Name) := by
  have h0 : law26_modest_j0 d = some true ∨ (law26_modest_j0 d = some false ∧ lowD d) := by
    unfold law26_modest_j0
    by_cases c1 : d.Count < 0
    · rw [decide_eq_true c1]; exact .inl rfl
    · by_cases c2 : (1000 : Int) < d.Count
      · rw [decide_eq_false c1, decide_eq_true c2]; exact .inl rfl
      · by_cases c3 : d.Surge < 0
        · rw [decide_eq_false c1, decide_eq_false c2, decide_eq_true c3]; exact .inl rfl
        · by_cases c4 : (1000 : Int) < d.Surge
          · rw [decide_eq_false c1, decide_eq_false c2, decide_eq_false c3, decide_eq_true c4]; exact .inl rfl
          · by_cases c5 : d.Slack < 0
            · rw [decide_eq_false c1, decide_eq_false c2, decide_eq_false c3, decide_eq_false c4, decide_eq_true c5]; exact .inl rfl
            · by_cases c6 : (1000 : Int) < d.Slack
              · rw [decide_eq_false c1, decide_eq_false c2, decide_eq_false c3, decide_eq_false c4, decide_eq_false c5, decide_eq_true c6]; exact .inl rfl
              · rw [decide_eq_false c1, decide_eq_false c2, decide_eq_false c3, decide_eq_false c4, decide_eq_false c5, decide_eq_false c6]
                exact .inr ⟨rfl, ⟨by omega, by omega⟩, ⟨by omega, by omega⟩, by omega, by omega⟩
  unfold law26_modest
  rcases h0 with e | ⟨e, hd⟩
  · rw [e]; exact .inl rfl
  rw [e]
  simp only [Option.bind_some, cond_false]
  rw [if_pos (by omega)]
  rcases rnd_or (step := law26_modest_0_s sets) (Good := fun i => lowC (el sets i) ∧ ∀ k, k < i → (el sets k).Name ≠ (el sets i).Name) (r := false) sets.length 0 (fun j _ hj => by
    unfold law26_modest_0_s law26_modest_j1
    by_cases c1 : (el sets j).Count < 0
    · rw [decide_eq_true c1]; exact .inr rfl
    rw [decide_eq_false c1, cond_false]
    by_cases c2 : (1000 : Int) < (el sets j).Count
    · rw [decide_eq_true c2]; exact .inr rfl
    rw [decide_eq_false c2]
    simp only [optRes, cond_false]
    rw [if_pos (by omega)]
    rcases rnd_or (step := law26_modest_1_s sets j) (Good := fun k => (el sets k).Name ≠ (el sets j).Name) (r := false) j 0 (fun k _ hk => by
      unfold law26_modest_1_s
      rw [if_pos (by omega)]
      by_cases c3 : (el sets k).Name = (el sets j).Name
      · rw [decide_eq_true c3]; exact .inr rfl
      · rw [decide_eq_false c3]; exact .inl ⟨rfl, c3⟩) with ⟨e1, hg⟩ | e1
    · rw [e1]
      exact .inl ⟨rfl, ⟨by omega, by omega⟩, fun k hk => hg k (Nat.zero_le _) (by omega)⟩
    · rw [e1]
      exact .inr rfl) with ⟨e1, hg⟩ | e1
  · rw [e1]
    exact .inr ⟨rfl, hd, fun i hi => (hg i (Nat.zero_le _) (by omega)).1, fun i k hi hk => (hg i (Nat.zero_le _) (by omega)).2 k hk⟩
  · rw [e1]
    exact .inl rfl
theorem pairwise_of (sets : List Object) (h : ∀ i k, i < sets.length → k < i → (el sets k).Name ≠ (el sets i).Name) : sets.Pairwise fun a b => a.Name ≠ b.Name := by
  rw [List.pairwise_iff_getElem]
  intro i j hi hj hij
  have := h j i hj hij
  rwa [el_at hi, el_at hj] at this
/-! What `after` makes of the sets. -/
def updO (r : Request) (x : Object) : Object := if r.Verb = 1 ∧ x.Name = r.Object.Name then r.Object else x
def updL (r : Request) (s : List Object) : List Object := if r.Verb = 0 then s.map (updO r) ++ [r.Object] else s.map (updO r)
theorem after_in (r : Request) : ∀ (m n k : Nat) (s : List Object), m < n → k + m = s.length → s.length ≤ 100000 → rndF (law26_after_1_s [r] 0) n ((k : Int), s) = .out (s.take k ++ (s.drop k).map (updO r))
  | m, 0, k, s, h, _, _ => by omega
  | 0, n + 1, k, s, _, hk, _ => by
    rw [rndF]
    unfold law26_after_1_s
    simp only []
    rw [decide_eq_false (by omega), cond_false]
    simp only []
    rw [List.drop_eq_nil_of_le (by omega), List.take_of_length_le (by omega)]
    simp
  | m + 1, n + 1, k, s, h, hk, hl => by
    rw [rndF]
    have hi : k < s.length := by omega
    have hs : law26_after_1_s [r] 0 ((k : Int), s) = .go ((((k + 1 : Nat)) : Int), s.set k (updO r s[k])) := by
      unfold law26_after_1_s law26_after_j1 law26_after_j0
      simp only []
      rw [decide_eq_true (show ((k : Nat) : Int) < ((s.length : Nat) : Int) by omega), cond_true, if_pos (show 0 ≤ ((k : Nat) : Int) ∧ ((k : Nat) : Int) < ((s.length : Nat) : Int) by omega)]
      have e0 : el [r] 0 = r := rfl
      have w : IntKind.i64.wrap (((k : Nat) : Int) + 1) = (((k + 1 : Nat)) : Int) := i64_small (by omega)
      rw [e0, w, Int.toNat_natCast, el_at hi]
      unfold updO
      by_cases c1 : r.Verb = 1
      · rw [decide_eq_true c1]
        simp only [cond_true, Option.bind_some]
        by_cases c2 : s[k].Name = r.Object.Name
        · rw [decide_eq_true c2, if_pos (show (0 : Int) ≤ ((k : Nat) : Int) ∧ ((k : Nat) : Int) < ((s.length : Nat) : Int) by omega), if_pos (show r.Verb = 1 ∧ s[k].Name = r.Object.Name from ⟨c1, c2⟩)]
          rfl
        · rw [decide_eq_false c2, if_neg (show ¬ (r.Verb = 1 ∧ s[k].Name = r.Object.Name) from fun q => c2 q.2), List.set_getElem_self]
          rfl
      · rw [decide_eq_false c1, if_neg (show ¬ (r.Verb = 1 ∧ s[k].Name = r.Object.Name) from fun q => c1 q.1), List.set_getElem_self]
        rfl
    rw [hs]
    simp only []
    rw [after_in r m n (k + 1) _ (by omega) (by simp; omega) (by simpa using hl), List.drop_eq_getElem_cons hi, List.map_cons]
    congr 1
    rw [List.take_succ_eq_append_getElem (by simpa using hi), List.drop_set_of_lt (by omega), List.take_set_of_le (Nat.le_refl _), List.append_assoc]
    simp
theorem after_one (r : Request) (s : List Object) (hl : s.length ≤ 900) : law26_after_0_s [r] 0 s = .go (updL r s) := by
  unfold law26_after_0_s updL
  have := after_in r s.length 1000 0 s (by omega) (by omega) (by omega)
  rw [List.take_zero, List.drop_zero, List.nil_append] at this
  rw [show ((0 : Int), s) = (((0 : Nat) : Int), s) from rfl, this]
  simp only [Res.res]
  have e0 : el [r] 0 = r := rfl
  rw [e0]
  by_cases c : r.Verb = 0
  · rw [decide_eq_true c, if_pos c, cond_true, if_pos (fitL (by simp; omega) (by decide))]
  · rw [decide_eq_false c, if_neg c]
    rfl
theorem updL_len (r : Request) (s : List Object) : (updL r s).length ≤ s.length + 1 := by
  unfold updL
  split <;> simp
theorem after_fold : ∀ (l : List Request) (s : List Object), s.length + l.length ≤ 900 → foldR (fun r s => law26_after_0_s [r] 0 s) l s = .go (l.foldl (fun s r => updL r s) s)
  | [], s, _ => rfl
  | r :: l, s, h => by
    simp only [List.length_cons] at h
    rw [foldR, after_one r s (by omega)]
    simp only []
    have := updL_len r s
    rw [after_fold l _ (by omega), List.foldl_cons]
theorem after_eq (sets : List Object) (l : List Request) (hs : sets.length ≤ 100) (ho : ∀ o ∈ sets, OkLb o) (hl : l.length ≤ 500) : law26_after sets l = some (l.foldl (fun s r => updL r s) sets) := by
  unfold law26_after
  rw [CopyObjects_eq sets (by omega) ho]
  simp only [Option.bind_some]
  rw [if_pos (by omega)]
  have e : law26_after_0_s l = fun i s => (fun r s => law26_after_0_s [r] 0 s) (el l i) s := rfl
  rw [e, rnd_fold (fun r s => law26_after_0_s [r] 0 s), after_fold _ _ (by omega)]
  rfl
/-! Counts. -/
def cntC (dn : ByteArray) : List Object → Int
  | [] => 0
  | o :: l => (if o.Deploy = dn then o.Count else 0) + cntC dn l
def midC (o : Object) : Prop := 0 ≤ o.Count ∧ o.Count ≤ 10000000
def couF (dn : ByteArray) (o : Object) (s : Int) : Res Int Empty := optRes (bif (decide (o.Deploy = dn)) then (some (IntKind.i64.wrap (s + o.Count))) else (some s)) fun d => .go d
theorem cou_go (dn : ByteArray) : ∀ (l : List Object) (a : Int), (∀ o ∈ l, midC o) → 0 ≤ a → a + l.length * 10000000 ≤ 1000000000000000 → foldR (couF dn) l a = .go (a + cntC dn l)
  | [], a, _, _, _ => by simp [foldR, cntC]
  | o :: l, a, h, h0, h1 => by
    simp only [List.length_cons] at h1
    have hm := h o List.mem_cons_self
    unfold midC at hm
    rw [foldR, couF, cntC]
    by_cases c : o.Deploy = dn
    · rw [decide_eq_true c, if_pos c, i64_small (by omega)]
      refine (cou_go dn l (a + o.Count) (fun x hx => h x (List.mem_cons_of_mem _ hx)) (by omega) (by omega)).trans ?_
      rw [Int.add_assoc]
    · rw [decide_eq_false c, if_neg c, Int.zero_add]
      exact cou_go dn l a (fun x hx => h x (List.mem_cons_of_mem _ hx)) h0 (by omega)
theorem counts_eq (d : Object) (s : List Object) (hl : s.length ≤ 1000) (h : ∀ o ∈ s, midC o) : law26_counts d s = some (cntC d.Name s) := by
  unfold law26_counts
  have e : law26_counts_0_s s d = fun i st => couF d.Name (el s i) st := rfl
  rw [if_pos (by omega), e, rnd_fold, cou_go d.Name s 0 h (by omega) (by omega), Int.zero_add]
  rfl
theorem sumH_own (dn : ByteArray) : ∀ (l : List Object), (∀ o ∈ l, lowC o) → sumH (l.filter fun s => decide (s.Deploy = dn)) = cntC dn l
  | [], _ => rfl
  | o :: l, h => by
    have ih := sumH_own dn l fun x hx => h x (List.mem_cons_of_mem _ hx)
    have hm := h o List.mem_cons_self
    unfold lowC at hm
    by_cases c : o.Deploy = dn
    · rw [List.filter_cons_of_pos (p := fun s : Object => decide (s.Deploy = dn)) (decide_eq_true c), sumH, cntC, if_pos c, ih]
      unfold heldQ
      omega
    · rw [List.filter_cons_of_neg (p := fun s : Object => decide (s.Deploy = dn)) (by rw [decide_eq_false c]; decide), cntC, if_neg c, ih, Int.zero_add]
/-- Side by side. -/
inductive Two (R : Object → Object → Prop) : List Object → List Object → Prop
  | nil : Two R [] []
  | cons {x y l m} : R x y → Two R l m → Two R (x :: l) (y :: m)
theorem Two.refl {R : Object → Object → Prop} : ∀ (l : List Object), (∀ x ∈ l, R x x) → Two R l l
  | [], _ => .nil
  | x :: l, h => .cons (h x List.mem_cons_self) (Two.refl l fun y hy => h y (List.mem_cons_of_mem _ hy))
theorem Two.map {R : Object → Object → Prop} {g : Object → Object} {l m : List Object} (h : Two R l m) : (∀ x ∈ l, ∀ y, R x y → R x (g y)) → Two R l (m.map g) := by
  induction h with
  | nil => exact fun _ => .nil
  | cons hxy _ ih => exact fun hg => .cons (hg _ List.mem_cons_self _ hxy) (ih fun x hx => hg x (List.mem_cons_of_mem _ hx))
theorem Two.len {R : Object → Object → Prop} {l m : List Object} (h : Two R l m) : m.length = l.length := by
  induction h with
  | nil => rfl
  | cons _ _ ih => simp [ih]
theorem Two.at {R : Object → Object → Prop} {l m : List Object} (h : Two R l m) : ∀ (i : Nat), i < l.length → R (el l i) (el m i) := by
  induction h with
  | nil => intro i hi; simp at hi
  | cons hxy _ ih =>
    intro i hi
    cases i with
    | zero => exact hxy
    | succ i => exact ih i (by simpa using hi)
/-- A set with another count, which a property allows. -/
def RQ (Q : Object → Int → Prop) (x y : Object) : Prop := ∃ n, y = { x with Count := n } ∧ 0 ≤ n ∧ n ≤ 10000000 ∧ Q x n
theorem same_name {sets : List Object} (h : sets.Pairwise fun a b => a.Name ≠ b.Name) {x o : Object} (hx : x ∈ sets) (ho : o ∈ sets) (e : x.Name = o.Name) : x = o := by
  induction h with
  | nil => cases hx
  | cons h1 _ ih =>
    rcases List.mem_cons.1 hx with hx1 | hx1
    · rcases List.mem_cons.1 ho with ho1 | ho1
      · rw [hx1, ho1]
      · rw [hx1] at e
        exact absurd e (h1 o ho1)
    · rcases List.mem_cons.1 ho with ho1 | ho1
      · rw [ho1] at e
        exact absurd e.symm (h1 x hx1)
      · exact ih hx1 ho1
theorem two_turn {Q : Object → Int → Prop} {sets m : List Object} (hp : sets.Pairwise fun a b => a.Name ≠ b.Name) (h : Two (RQ Q) sets m) {o : Object} (ho : o ∈ sets) {n : Int} (hn : 0 ≤ n ∧ n ≤ 10000000 ∧ Q o n) : Two (RQ Q) sets (updL (turnQ o n) m) := by
  unfold updL
  rw [if_neg (show ¬ ((turnQ o n).Verb = 0) from (show ¬ ((1 : Int) = 0) by decide))]
  refine h.map fun x hx y hxy => ?_
  unfold updO
  split
  · rename_i hc
    obtain ⟨n', rfl, _⟩ := hxy
    have : x = o := same_name hp hx ho hc.2
    subst this
    exact ⟨n, rfl, hn⟩
  · exact hxy
theorem two_turns {Q : Object → Int → Prop} {sets : List Object} (hp : sets.Pairwise fun a b => a.Name ≠ b.Name) : ∀ (l : List Request) (m : List Object), Two (RQ Q) sets m → (∀ r ∈ l, ∃ o n, o ∈ sets ∧ r = turnQ o n ∧ 0 ≤ n ∧ n ≤ 10000000 ∧ Q o n) → Two (RQ Q) sets (l.foldl (fun s r => updL r s) m)
  | [], m, h, _ => h
  | r :: l, m, h, hl => by
    obtain ⟨o, n, ho, rfl, hn⟩ := hl r List.mem_cons_self
    exact two_turns hp l _ (two_turn hp h ho hn) fun r hr => hl r (List.mem_cons_of_mem _ hr)
theorem two_mid {Q : Object → Int → Prop} {l m : List Object} (h : Two (RQ Q) l m) : ∀ o ∈ m, midC o := by
  induction h with
  | nil => intro o ho; cases ho
  | cons hxy _ ih =>
    intro o ho
    rcases List.mem_cons.1 ho with rfl | ho
    · obtain ⟨n, rfl, h0, h1, _⟩ := hxy
      exact ⟨h0, h1⟩
    · exact ih o ho
theorem two_cnt {Q : Object → Int → Prop} (dn : ByteArray) (hQ : ∀ x n, Q x n → n ≤ x.Count) {l m : List Object} (h : Two (RQ Q) l m) : cntC dn m ≤ cntC dn l := by
  induction h with
  | nil => exact Int.le_refl _
  | cons hxy _ ih =>
    obtain ⟨n, rfl, _, _, hq⟩ := hxy
    have := hQ _ _ hq
    unfold cntC
    simp only []
    split <;> omega
/-- One set grows, by so much at most. -/
theorem two_grow (dn : ByteArray) (o : Object) (c : Int) : ∀ {l m : List Object}, l.Pairwise (fun a b => a.Name ≠ b.Name) → Two (RQ fun x n => n = x.Count ∨ (x = o ∧ n = c)) l m → cntC dn m ≤ cntC dn l + max 0 (c - o.Count) := by
  intro l m hp h
  induction h with
  | nil => unfold cntC; omega
  | @cons x y l m hxy ht ih =>
    obtain ⟨n, rfl, _, _, hq⟩ := hxy
    have hp' := List.pairwise_cons.1 hp
    rcases hq with rfl | ⟨rfl, rfl⟩
    · have := ih hp'.2
      unfold cntC
      simp only []
      split <;> omega
    · have ht' : Two (RQ fun x n => n ≤ x.Count) l m := by
        have key : ∀ (l m : List Object), (∀ y ∈ l, y.Name ≠ x.Name) → Two (RQ fun z k => k = z.Count ∨ (z = x ∧ k = n)) l m → Two (RQ fun z k => k ≤ z.Count) l m := by
          intro l m hne h
          induction h with
          | nil => exact .nil
          | cons hab _ ih2 =>
            refine .cons ?_ (ih2 fun y hy => hne y (List.mem_cons_of_mem _ hy))
            obtain ⟨k, e, h0, h1, hq⟩ := hab
            refine ⟨k, e, h0, h1, ?_⟩
            rcases hq with rfl | ⟨rfl, _⟩
            · exact Int.le_refl _
            · exact absurd rfl (hne _ List.mem_cons_self)
        exact key l m (fun y hy => (hp'.1 y hy).symm) ht
      have := two_cnt dn (fun _ _ q => q) ht'
      unfold cntC
      simp only []
      split <;> omega
/-! What an elder set is shrunk to is no more than it had. -/
theorem sh_low (pods : List Object) (dn nm : ByteArray) : ∀ (l : List Object) (a : Int) (r : Request), 0 ≤ a → (∀ o ∈ l, lowC o) → r ∈ shQ pods dn nm l a → ∃ o n, o ∈ l ∧ r = turnQ o n ∧ 0 ≤ n ∧ n ≤ o.Count
  | [], a, r, _, _, h => by simp [shQ] at h
  | o :: l, a, r, ha, hlow, h => by
    have tail : ∀ a' r, 0 ≤ a' → r ∈ shQ pods dn nm l a' → ∃ o' n, o' ∈ o :: l ∧ r = turnQ o' n ∧ 0 ≤ n ∧ n ≤ o'.Count := fun a' r ha' hr => by
      obtain ⟨o', n, ho, e⟩ := sh_low pods dn nm l a' r ha' (fun x hx => hlow x (List.mem_cons_of_mem _ hx)) hr
      exact ⟨o', n, List.mem_cons_of_mem _ ho, e⟩
    have hf := free_lo pods dn o
    have hc := hlow o List.mem_cons_self
    unfold lowC at hc
    have hh : heldQ o.Count = o.Count := by unfold heldQ; omega
    unfold shQ at h
    split at h
    · exact tail a r ha h
    · split at h
      · rename_i hk
        have hk2 : kQ pods dn o a ≤ freeQ pods dn o + a := by unfold kQ; omega
        have hk3 : kQ pods dn o a ≤ heldQ o.Count := by unfold kQ; omega
        rcases List.mem_cons.1 h with h | h
        · exact ⟨o, _, List.mem_cons_self, h, by omega, by omega⟩
        · exact tail _ r (by omega) h
      · exact tail a r ha h
theorem oneQ_len (pods : List Object) (d : Object) (s : List Object) : (oneQ pods d s).length ≤ s.length + 1 := by
  unfold oneQ
  split
  · simp
  · split
    · split
      · unfold growQ; split <;> simp
      · split
        · unfold cutQ; split <;> simp
        · split
          · exact Nat.le_trans (sh_len _ _ _ _ _) (by omega)
          · rw [List.length_map]; exact Nat.le_trans (List.length_filter_le _ _) (by omega)
    · simp
theorem pure_RollSurge (ff : Fleet) (d : Object) (sets : List Object) (O0 : OkFleet ff) (O1 : OkObject d) (O2 : sets.length * 312 ≤ 140737488351232 ∧ sets.length ≤ 9223372036854775807 ∧ ∀ x ∈ sets, OkObject x) : law26_RollSurge ff d sets = some true := by
  unfold law26_RollSurge law26_RollSurge_j0 law26_works
  simp only [Option.bind_some, cond_true]
  rcases big_cases ff sets with h | ⟨h, hp, hdl, hs⟩
  · rw [h]; rfl
  rw [h]
  simp only [Option.bind_some, cond_false]
  rcases modest_cases d sets (by omega) with h | ⟨h, hd, hlow, hun⟩
  · rw [h]; rfl
  rw [h]
  simp only [Option.bind_some, Bool.not_true, cond_false]
  have ok : ∀ o ∈ sets, OkLb o := fun o ho => okLb_of (O2.2.2 o ho)
  have hpw := pairwise_of sets hun
  have hlow' : ∀ o ∈ sets, lowC o := fun o ho => by
    obtain ⟨i, hi, rfl⟩ := List.getElem_of_mem ho
    have := hlow i hi
    rwa [el_at hi] at this
  have hmid : ∀ o ∈ sets, midC o := fun o ho => by
    have := hlow' o ho
    unfold lowC at this
    unfold midC
    omega
  have hsn : roll_SetName d = some (nmQ d) := (setName_eq O1).1
  obtain ⟨k1, k2⟩ := oneQ_ok ff.Pods d (ownS d sets) (okLb_of O1) (fun o ho => ok o (ownS_mem ho).1) (Nat.le_trans (ownS_len d sets) (by omega))
  have hlen : (oneQ ff.Pods d (ownS d sets)).length ≤ 101 := by
    have := oneQ_len ff.Pods d (ownS d sets)
    have := ownS_len d sets
    omega
  rw [One_eq ff d sets O1 (by omega) (by omega) ok]
  simp only [Option.bind_some]
  rw [after_eq sets _ hs ok (by omega), counts_eq d sets (by omega) hmid]
  simp only [Option.bind_some]
  -- what is to be shown of the sets behind it
  suffices H : ∀ next, next = (oneQ ff.Pods d (ownS d sets)).foldl (fun s r => updL r s) sets → next.length ≤ 1000 ∧ (∀ o ∈ next, midC o) ∧ cntC d.Name next ≤ max (cntC d.Name sets) (d.Count + d.Surge) ∧ sets.length ≤ next.length ∧ ∀ i, i < sets.length → (el next i).Count ≤ (el sets i).Count ∨ (el sets i).Name = nmQ d by
    obtain ⟨n1, n2, n3, n4, n5⟩ := H _ rfl
    generalize (oneQ ff.Pods d (ownS d sets)).foldl (fun s r => updL r s) sets = next at n1 n2 n3 n4 n5
    rw [counts_eq d next n1 n2]
    simp only [Option.bind_some]
    unfold lowD at hd
    rw [i64_small (by omega), decide_eq_false (by omega), cond_false, if_pos (by omega), rnd_pass sets.length 0 (fun j _ hj => by
      unfold law26_RollSurge_0_s law26_RollSurge_j1
      rw [if_pos (by omega)]
      by_cases c : (el sets j).Count < (el next j).Count
      · rw [decide_eq_true c, cond_true, hsn]
        simp only [Option.bind_some, optRes]
        have := n5 j (by omega)
        rw [decide_eq_true (show (el sets j).Name = nmQ d by rcases this with q | q; omega; exact q)]
        rfl
      · rw [decide_eq_false c]
        rfl)]
    rfl
  intro next hnext
  have same : next = sets → next.length ≤ 1000 ∧ (∀ o ∈ next, midC o) ∧ cntC d.Name next ≤ max (cntC d.Name sets) (d.Count + d.Surge) ∧ sets.length ≤ next.length ∧ ∀ i, i < sets.length → (el next i).Count ≤ (el sets i).Count ∨ (el sets i).Name = nmQ d := by
    rintro rfl
    exact ⟨by omega, hmid, by omega, Nat.le_refl _, fun i _ => .inl (Int.le_refl _)⟩
  have less : Two (RQ fun x n => n ≤ x.Count) sets next → next.length ≤ 1000 ∧ (∀ o ∈ next, midC o) ∧ cntC d.Name next ≤ max (cntC d.Name sets) (d.Count + d.Surge) ∧ sets.length ≤ next.length ∧ ∀ i, i < sets.length → (el next i).Count ≤ (el sets i).Count ∨ (el sets i).Name = nmQ d := fun t => by
    have t1 := t.len
    have t2 := two_cnt d.Name (fun _ _ q => q) t
    refine ⟨by omega, two_mid t, by omega, by omega, fun i hi => .inl ?_⟩
    obtain ⟨n, e, _, _, hn⟩ := t.at i hi
    rw [e]
    exact hn
  have refl2 : Two (RQ fun x n => n ≤ x.Count) sets sets := Two.refl sets fun x hx => ⟨x.Count, rfl, (hmid x hx).1, (hmid x hx).2, Int.le_refl _⟩
  unfold oneQ at hnext
  unfold lowD at hd
  split at hnext
  · exact same hnext
  split at hnext
  · rename_i h0
    obtain ⟨_, hc⟩ := j0_spec (nmQ d) (ownS d sets) (Nat.le_trans (ownS_len d sets) (by omega))
    rcases hc with ⟨e, _⟩ | ⟨j, hj, e, hn⟩
    · omega
    have hob : el (ownS d sets) (j0Q (nmQ d) (ownS d sets)).toNat ∈ ownS d sets := el_mem' (by omega)
    have hnm : (el (ownS d sets) (j0Q (nmQ d) (ownS d sets)).toNat).Name = nmQ d := by rw [e, Int.toNat_natCast]; exact hn
    generalize el (ownS d sets) (j0Q (nmQ d) (ownS d sets)).toNat = o at hnext hob hnm
    have ho := (ownS_mem hob).1
    have hlo := hlow' o ho
    unfold lowC at hlo
    have e1 : heldQ o.Count = o.Count := by unfold heldQ; omega
    have e2 : heldQ d.Count = d.Count := by unfold heldQ; omega
    have e3 : heldQ d.Surge = d.Surge := by unfold heldQ; omega
    split at hnext
    · unfold growQ at hnext
      split at hnext
      · rename_i hg
        rw [e1, e2] at hnext hg
        have hroom : roomQ d (ownS d sets) = d.Count + d.Surge - cntC d.Name sets := by
          unfold roomQ ownS
          rw [sumH_own d.Name sets hlow', e2, e3]
        rw [hroom] at hnext hg
        generalize hcc : o.Count + min (d.Count - o.Count) (d.Count + d.Surge - cntC d.Name sets) = c at hnext
        have t : Two (RQ fun x n => n = x.Count ∨ (x = o ∧ n = c)) sets next := by
          rw [hnext]
          refine two_turns hpw _ _ (Two.refl sets fun x hx => ⟨x.Count, rfl, (hmid x hx).1, (hmid x hx).2, .inl rfl⟩) fun r hr => ?_
          simp only [List.mem_singleton] at hr
          exact ⟨o, c, ho, hr, by omega, by omega, .inr ⟨rfl, rfl⟩⟩
        have t1 := t.len
        have t2 := two_grow d.Name o c hpw t
        refine ⟨by omega, two_mid t, by omega, by omega, fun i hi => ?_⟩
        obtain ⟨n, en, _, _, hn⟩ := t.at i hi
        rcases hn with hn | ⟨hn, _⟩
        · exact .inl (by rw [en]; show n ≤ _; omega)
        · exact .inr (by rw [hn]; exact hnm)
      · exact same hnext
    split at hnext
    · unfold cutQ at hnext
      split at hnext
      · rename_i hg
        rw [e1, e2] at hg
        refine less ?_
        rw [hnext]
        refine two_turns hpw _ _ refl2 fun r hr => ?_
        simp only [List.mem_singleton] at hr
        exact ⟨o, _, ho, hr, by omega, by omega, by omega⟩
      · exact same hnext
    split at hnext
    · refine less ?_
      rw [hnext]
      refine two_turns hpw _ _ refl2 fun r hr => ?_
      obtain ⟨o', n, ho', hr', h1, h2⟩ := sh_low _ _ _ _ _ _ (by unfold spareQ; omega) (fun x hx => hlow' x (ownS_mem hx).1) hr
      have := hlow' o' (ownS_mem ho').1
      unfold lowC at this
      exact ⟨o', n, (ownS_mem ho').1, hr', h1, by omega, h2⟩
    · refine same ?_
      rw [hnext]
      have key : ∀ (m : List Object) (s : List Object), (m.map delQ).foldl (fun s r => updL r s) s = s := by
        intro m
        induction m with
        | nil => intro s; rfl
        | cons a m ih =>
          intro s
          rw [List.map_cons, List.foldl_cons]
          have : updL (delQ a) s = s := by
            unfold updL
            rw [if_neg (show ¬ ((delQ a).Verb = 0) from (show ¬ ((2 : Int) = 0) by decide))]
            have : updO (delQ a) = id := by
              funext x
              unfold updO
              rw [if_neg (show ¬ ((delQ a).Verb = 1 ∧ x.Name = (delQ a).Object.Name) from fun q => absurd q.1 (show ¬ ((2 : Int) = 1) by decide))]
              rfl
            rw [this, List.map_id]
          rw [this]
          exact ih s
      exact key _ _
  · have hn2 : next = sets ++ [(makeQ d).Object] := by
      rw [hnext, List.foldl_cons, List.foldl_nil]
      unfold updL
      rw [if_pos (by unfold makeQ; rfl)]
      have : updO (makeQ d) = id := by
        funext x
        unfold updO
        rw [if_neg (show ¬ ((makeQ d).Verb = 1 ∧ x.Name = (makeQ d).Object.Name) from fun q => absurd q.1 (show ¬ ((0 : Int) = 1) by decide))]
        rfl
      rw [this, List.map_id]
    have hcnt : ∀ (l : List Object), cntC d.Name (l ++ [(makeQ d).Object]) = cntC d.Name l := by
      intro l
      induction l with
      | nil => unfold makeQ; simp [cntC]
      | cons a l ih => rw [List.cons_append, cntC, cntC, ih]
    refine ⟨by rw [hn2]; simp; omega, fun o ho => ?_, by rw [hn2, hcnt]; omega, by rw [hn2]; simp, fun i hi => .inl ?_⟩
    · rw [hn2] at ho
      rcases List.mem_append.1 ho with ho | ho
      · exact hmid o ho
      · simp only [List.mem_singleton] at ho
        subst ho
        exact ⟨show (0 : Int) ≤ 0 by decide, show (0 : Int) ≤ 10000000 by decide⟩
    · rw [hn2, el_left hi]
      exact Int.le_refl _
end Go.Proofs.Ytnoaglgjhgnnfaa.Ag
