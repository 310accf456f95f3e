/- Rollouts in plain Lean: what One and Done answer. -/
import Derived.Test.YtnoaglgjhgnnfaaRo1
set_option maxRecDepth 100000
set_option linter.unusedVariables false
set_option linter.unusedSimpArgs false
namespace Go.Proofs.Ytnoaglgjhgnnfaa.Ag
open Go Go.RowKit Go.Proofs.Ytnoaglgjhgnnfaa.Av Go.Proofs.Ytnoaglgjhgnnfaa.AvT Go.Proofs.Ytnoaglgjhgnnfaa.AvS

def nmQ (d : Object) : ByteArray := d.Name ++ (⟨#[45]⟩ : ByteArray) ++ txQ (tmQ d)
/-- The place of the newest set, or -1. -/
def j0Q (nm : ByteArray) (s : List Object) : Int := match roll_One_j0 nm s with
  | some x => x
  | none => -1
theorem j0_spec (nm : ByteArray) (s : List Object) (h : s.length ≤ 100000) : roll_One_j0 nm s = some (j0Q nm s) ∧ ((j0Q nm s = -1 ∧ ∀ j, j < s.length → (el s j).Name ≠ nm) ∨ ∃ j : Nat, j < s.length ∧ j0Q nm s = (j : Int) ∧ (el s j).Name = nm) := by
  have key : (roll_One_j0 nm s = some (-1) ∧ ∀ j, j < s.length → (el s j).Name ≠ nm) ∨ ∃ j : Nat, j < s.length ∧ roll_One_j0 nm s = some (j : Int) ∧ (el s j).Name = nm := by
    unfold roll_One_j0
    rw [if_pos (by omega)]
    rcases rnd_find (p := fun j => decide ((el s j).Name = nm)) (step := roll_One_1_s s nm) s.length 0 (fun j _ _ => rfl) with ⟨e, h2⟩ | ⟨j, _, hj, e, h2, h3⟩
    · exact .inl ⟨by rw [e]; rfl, fun j hj => of_decide_eq_false (h2 j (Nat.zero_le _) (by omega))⟩
    · exact .inr ⟨j, by omega, by rw [e]; rfl, of_decide_eq_true h2⟩
  rcases key with ⟨e, hn⟩ | ⟨j, hj, e, hn⟩
  · have : j0Q nm s = -1 := by unfold j0Q; rw [e]
    rw [this]
    exact ⟨e, .inl ⟨rfl, hn⟩⟩
  · have : j0Q nm s = (j : Int) := by unfold j0Q; rw [e]
    rw [this]
    exact ⟨e, .inr ⟨j, hj, rfl, hn⟩⟩
def sumH : List Object → Int
  | [] => 0
  | o :: l => heldQ o.Count + sumH l
theorem sumH_lo : ∀ l : List Object, 0 ≤ sumH l
  | [] => by unfold sumH; omega
  | o :: l => by have := sumH_lo l; have := heldQ_lo o.Count; unfold sumH; omega
theorem sumH_hi : ∀ l : List Object, sumH l ≤ l.length * 1048576
  | [] => by unfold sumH; simp
  | o :: l => by have := sumH_hi l; have := heldQ_hi o.Count; unfold sumH; simp only [List.length_cons]; omega
def sumF (o : Object) (s : Int) : Res Int Empty := optRes (roll_held o.Count) fun r => .go (IntKind.i64.wrap (s + r))
theorem sum_go : ∀ (l : List Object) (a : Int), 0 ≤ a → a + l.length * 1048576 ≤ 1000000000000000 → foldR sumF l a = .go (a + sumH l)
  | [], a, _, _ => by simp [foldR, sumH]
  | o :: l, a, h0, h => by
    have h1 := heldQ_lo o.Count
    have h2 := heldQ_hi o.Count
    simp only [List.length_cons] at h
    rw [foldR, sumF, held_eq]
    simp only [optRes]
    rw [i64_small (by omega), sum_go l _ (by omega) (by omega), sumH, Int.add_assoc]
theorem loop2 (s : List Object) (h : s.length ≤ 100000) : rndN (roll_One_2_s s) s.length 0 (0 : Int) = .go (sumH s) := by
  have e : roll_One_2_s s = fun k st => sumF (el s k) st := rfl
  rw [e, rnd_fold, sum_go _ _ (by omega) (by omega), Int.zero_add]
theorem loop3 (s : List Object) (h : s.length ≤ 100000) : rndN (roll_One_3_s s) s.length 0 (0 : Int) = .go (sumH s) := by
  have e : roll_One_3_s s = fun k st => sumF (el s k) st := rfl
  rw [e, rnd_fold, sum_go _ _ (by omega) (by omega), Int.zero_add]
/-- So many of a deployment's pods are ready. -/
def rdQ (l : List Object) (dn : ByteArray) : Int := ((l.countP fun p => decide (p.Deploy = dn) && !p.Ending && p.Ready : Nat) : Int)
theorem rdQ_own (d : Object) (l : List Object) : rdQ (ownS d l) d.Name = rdQ l d.Name := by
  unfold rdQ ownS
  rw [List.countP_filter]
  exact congrArg (fun q => ((List.countP q l : Nat) : Int)) (funext fun p => by cases decide (p.Deploy = d.Name) <;> cases p.Ending <;> cases p.Ready <;> rfl)
theorem rdQ_lo (l : List Object) (dn : ByteArray) : 0 ≤ rdQ l dn := by unfold rdQ; omega
theorem rdQ_hi (l : List Object) (dn : ByteArray) : rdQ l dn ≤ l.length := by
  unfold rdQ
  have := List.countP_le_length (l := l) (p := fun p => decide (p.Deploy = dn) && !p.Ending && p.Ready)
  omega
def rdF (dn : ByteArray) (p : Object) (s : Int) : Res Int Empty := bif (decide (p.Deploy = dn)) then (bif p.Ending then (.go s) else (bif p.Ready then (.go (IntKind.i64.wrap (s + (1 : Int)))) else (.go s))) else (.go s)
theorem rd_go (dn : ByteArray) : ∀ (l : List Object) (a : Int), 0 ≤ a → a + l.length ≤ 1000000 → foldR (rdF dn) l a = .go (a + rdQ l dn)
  | [], a, _, _ => by simp [foldR, rdQ]
  | p :: l, a, h0, h => by
    simp only [List.length_cons] at h
    rw [foldR]
    unfold rdF rdQ
    simp only [List.countP_cons]
    rw [i64_small (by omega)]
    cases decide (p.Deploy = dn) with
    | false =>
      simp only [cond_false, Bool.false_and, Bool.false_eq_true, if_false, Nat.add_zero]
      exact rd_go dn l a h0 (by omega)
    | true =>
      cases p.Ending with
      | true =>
        simp only [cond_true, Bool.not_true, Bool.and_false, Bool.false_and, Bool.false_eq_true, if_false, Nat.add_zero]
        exact rd_go dn l a h0 (by omega)
      | false =>
        cases p.Ready with
        | false =>
          simp only [cond_true, cond_false, Bool.and_false, Bool.false_eq_true, if_false, Nat.add_zero]
          exact rd_go dn l a h0 (by omega)
        | true =>
          simp only [cond_true, cond_false, Bool.not_false, Bool.and_true, if_true]
          refine (rd_go dn l (a + 1) (by omega) (by omega)).trans ?_
          unfold rdQ
          simp only [Res.go.injEq]
          omega
theorem ready_eq (ff : Fleet) (dn : ByteArray) (h : ff.Pods.length ≤ 100000) : rules_Ready ff dn = some (rdQ ff.Pods dn) := by
  unfold rules_Ready
  have e : rules_Ready_0_s ff dn = fun k st => rdF dn (el ff.Pods k) st := rfl
  rw [if_pos (by omega), e, rnd_fold, rd_go dn _ _ (by omega) (by omega), Int.zero_add]
  rfl
/-- An elder set is shrunk. -/
def freeQ (pods : List Object) (dn : ByteArray) (o : Object) : Int := cnt3 pods o.Name dn + max 0 (heldQ o.Count - cnt2 pods o.Name dn)
def kQ (pods : List Object) (dn : ByteArray) (o : Object) (spare : Int) : Int := min (heldQ o.Count) (freeQ pods dn o + spare)
def shQ (pods : List Object) (dn nm : ByteArray) : List Object → Int → List Request
  | [], _ => []
  | o :: l, spare => if o.Name = nm then shQ pods dn nm l spare else if 0 < kQ pods dn o spare then turnQ o (heldQ o.Count - kQ pods dn o spare) :: shQ pods dn nm l (spare - max 0 (kQ pods dn o spare - freeQ pods dn o)) else shQ pods dn nm l spare
def shF (pods : List Object) (dn nm : ByteArray) (o : Object) (s : Int × List Request) : Res (Int × List Request) Empty :=
  if o.Name = nm then .go s else if 0 < kQ pods dn o s.1 then .go (s.1 - max 0 (kQ pods dn o s.1 - freeQ pods dn o), s.2 ++ [turnQ o (heldQ o.Count - kQ pods dn o s.1)]) else .go s
theorem cnt_lo (l : List Object) (nm dn : ByteArray) : 0 ≤ cnt1 l nm dn ∧ 0 ≤ cnt2 l nm dn ∧ 0 ≤ cnt3 l nm dn := by unfold cnt1 cnt2 cnt3; omega
theorem cnt_hi (l : List Object) (nm dn : ByteArray) : cnt1 l nm dn ≤ l.length ∧ cnt2 l nm dn ≤ l.length ∧ cnt3 l nm dn ≤ l.length := by
  unfold cnt1 cnt2 cnt3
  have h1 := List.countP_le_length (l := l) (p := fun p => decide (p.Set = nm) && decide (p.Deploy = dn))
  have h2 := List.countP_le_length (l := l) (p := fun p => decide (p.Set = nm) && decide (p.Deploy = dn) && !p.Ending)
  have h3 := List.countP_le_length (l := l) (p := fun p => decide (p.Set = nm) && decide (p.Deploy = dn) && !p.Ending && !p.Ready)
  omega
theorem free_lo (pods : List Object) (dn : ByteArray) (o : Object) : 0 ≤ freeQ pods dn o := by
  have := (cnt_lo pods o.Name dn).2.2
  unfold freeQ
  omega
theorem sh_go (pods : List Object) (dn nm : ByteArray) : ∀ (l : List Object) (st : Int × List Request), foldR (shF pods dn nm) l st = .go ((foldR (shF pods dn nm) l st |> fun r => match r with | .go s => s.1 | _ => 0), st.2 ++ shQ pods dn nm l st.1)
  | [], st => by simp [foldR, shQ]
  | o :: l, st => by
    rw [foldR, shQ]
    unfold shF
    by_cases h1 : o.Name = nm
    · rw [if_pos h1, if_pos h1]
      exact sh_go pods dn nm l st
    · rw [if_neg h1, if_neg h1]
      by_cases h2 : 0 < kQ pods dn o st.1
      · rw [if_pos h2, if_pos h2]
        have := sh_go pods dn nm l (st.1 - max 0 (kQ pods dn o st.1 - freeQ pods dn o), st.2 ++ [turnQ o (heldQ o.Count - kQ pods dn o st.1)])
        simp only [List.append_assoc, List.singleton_append] at this
        exact this
      · rw [if_neg h2, if_neg h2]
        exact sh_go pods dn nm l st
/-- In one round, where all is small. -/
theorem j5_eq (s : List Object) (i : Nat) (ff : Fleet) (d : Object) (nm : ByteArray) (a : Int) (l : List Request) (hp : ff.Pods.length ≤ 100000) (ho : OkLb (el s i)) (ha : 0 ≤ a ∧ a ≤ 100000000) (hl : l.length ≤ 100000) :
    roll_One_4_s s ff d nm i (a, l) = shF ff.Pods d.Name nm (el s i) (a, l) := by
  unfold roll_One_4_s roll_One_j5 shF
  simp only []
  by_cases h1 : (el s i).Name = nm
  · rw [decide_eq_true h1, if_pos h1]
    rfl
  rw [decide_eq_false h1, if_neg h1]
  simp only [cond_false]
  rw [if_pos (by omega), loop5 s i ff d hp]
  simp only [Res.opt, held_eq, Option.bind_some]
  have c2 := cnt_lo ff.Pods (el s i).Name d.Name
  have c3 := cnt_hi ff.Pods (el s i).Name d.Name
  have hh := heldQ_lo (el s i).Count
  have hh2 := heldQ_hi (el s i).Count
  have w1 : IntKind.i64.wrap (heldQ (el s i).Count - (cntQ ff.Pods (el s i).Name d.Name).2.1) = heldQ (el s i).Count - cnt2 ff.Pods (el s i).Name d.Name := i64_small (by simp only [cntQ]; omega)
  have w2 : IntKind.i64.wrap ((cntQ ff.Pods (el s i).Name d.Name).2.2 + max 0 (heldQ (el s i).Count - cnt2 ff.Pods (el s i).Name d.Name)) = freeQ ff.Pods d.Name (el s i) := i64_small (by simp only [cntQ]; omega)
  have hf := free_lo ff.Pods d.Name (el s i)
  have hf2 : freeQ ff.Pods d.Name (el s i) ≤ 10000000 := by unfold freeQ; omega
  have w3 : IntKind.i64.wrap (freeQ ff.Pods d.Name (el s i) + a) = freeQ ff.Pods d.Name (el s i) + a := i64_small (by omega)
  rw [w1, w2, w3]
  have hk : min (heldQ (el s i).Count) (freeQ ff.Pods d.Name (el s i) + a) = kQ ff.Pods d.Name (el s i) a := rfl
  rw [hk]
  have hk0 : 0 ≤ kQ ff.Pods d.Name (el s i) a := by unfold kQ; omega
  have hk1 : kQ ff.Pods d.Name (el s i) a ≤ 1048576 := by unfold kQ; omega
  have hk2 : kQ ff.Pods d.Name (el s i) a ≤ freeQ ff.Pods d.Name (el s i) + a := by unfold kQ; omega
  have w4 : IntKind.i64.wrap (heldQ (el s i).Count - kQ ff.Pods d.Name (el s i) a) = heldQ (el s i).Count - kQ ff.Pods d.Name (el s i) a := i64_small (by omega)
  have w5 : IntKind.i64.wrap (kQ ff.Pods d.Name (el s i) a - freeQ ff.Pods d.Name (el s i)) = kQ ff.Pods d.Name (el s i) a - freeQ ff.Pods d.Name (el s i) := i64_small (by omega)
  have w6 : IntKind.i64.wrap (a - max 0 (kQ ff.Pods d.Name (el s i) a - freeQ ff.Pods d.Name (el s i))) = a - max 0 (kQ ff.Pods d.Name (el s i) a - freeQ ff.Pods d.Name (el s i)) := i64_small (by omega)
  rw [w4, w5, w6, turn_eq ho]
  simp only [Option.bind_some]
  by_cases h2 : 0 < kQ ff.Pods d.Name (el s i) a
  · rw [decide_eq_true h2, if_pos h2, cond_true, if_pos (fitL (by simp; omega) (by decide))]
    rfl
  · rw [decide_eq_false h2, if_neg h2]
    rfl
theorem loop4' (s : List Object) (ff : Fleet) (d : Object) (nm : ByteArray) (hp : ff.Pods.length ≤ 100000) (hs : s.length ≤ 1000) (ho : ∀ o ∈ s, OkLb o) : ∀ (k i : Nat) (a : Int) (l : List Request), i + k = s.length → l.length ≤ i → 0 ≤ a ∧ a ≤ 100000000 →
    rndN (roll_One_4_s s ff d nm) k i (a, l) = foldR (shF ff.Pods d.Name nm) (s.drop i) (a, l)
  | 0, i, a, l, h, _, _ => by
    rw [List.drop_eq_nil_of_le (by omega)]
    rfl
  | k + 1, i, a, l, h, hl, ha => by
    have hi : i < s.length := by omega
    have he := el_at (l := s) hi
    rw [List.drop_eq_getElem_cons hi, rndN, foldR, j5_eq s i ff d nm a l hp (ho _ (by rw [he]; exact List.getElem_mem hi)) ha (by omega), he]
    unfold shF
    by_cases h1 : s[i].Name = nm
    · rw [if_pos h1]
      exact loop4' s ff d nm hp hs ho k (i + 1) a l (by omega) (by omega) ha
    · rw [if_neg h1]
      by_cases h2 : 0 < kQ ff.Pods d.Name s[i] a
      · rw [if_pos h2]
        have hk2 : kQ ff.Pods d.Name s[i] a ≤ freeQ ff.Pods d.Name s[i] + a := by unfold kQ; omega
        have ha2 : 0 ≤ a - max 0 (kQ ff.Pods d.Name s[i] a - freeQ ff.Pods d.Name s[i]) ∧ a - max 0 (kQ ff.Pods d.Name s[i] a - freeQ ff.Pods d.Name s[i]) ≤ 100000000 := by omega
        exact loop4' s ff d nm hp hs ho k (i + 1) _ _ (by omega) (by simp; omega) ha2
      · rw [if_neg h2]
        exact loop4' s ff d nm hp hs ho k (i + 1) a l (by omega) (by omega) ha
theorem loop4 (s : List Object) (ff : Fleet) (d : Object) (nm : ByteArray) (hp : ff.Pods.length ≤ 100000) (hs : s.length ≤ 1000) (ho : ∀ o ∈ s, OkLb o) (a : Int) (ha : 0 ≤ a ∧ a ≤ 100000000) :
    ∃ x, rndN (roll_One_4_s s ff d nm) s.length 0 (a, []) = .go (x, shQ ff.Pods d.Name nm s a) := by
  rw [loop4' s ff d nm hp hs ho s.length 0 a [] (by omega) (Nat.zero_le _) ha, List.drop_zero, sh_go]
  exact ⟨_, by rw [List.nil_append]⟩
/-- An elder set without pods is taken away. -/
def delQ (o : Object) : Request := ⟨(2 : Int), (⟨(0 : Int), (⟨#[]⟩ : ByteArray), (0 : Int), (0 : Int), [], (⟨(0 : Int), (0 : Int)⟩ : Amount), false, false, false, (0 : Int), (⟨#[]⟩ : ByteArray), (⟨#[]⟩ : ByteArray), (⟨#[]⟩ : ByteArray), (0 : Int), false, false, (⟨(0 : Int), (0 : Int)⟩ : Amount), (⟨#[]⟩ : ByteArray), (0 : Int), (0 : Int), (0 : Int), (0 : Int), (0 : Int), false, (0 : Int), [], (0 : Int), (⟨#[]⟩ : ByteArray), (0 : Int), (0 : Int)⟩ : Object), (3 : Int), o.Name, o.Version, (⟨#[]⟩ : ByteArray), (0 : Int), false, (0 : Int), (⟨#[]⟩ : ByteArray), (0 : Int)⟩
def delP (pods : List Object) (dn nm : ByteArray) (o : Object) : Bool := bif decide (o.Name = nm) then false else (bif decide (heldQ o.Count = 0) then decide (cnt1 pods o.Name dn = 0) else false)
theorem j6_eq (s : List Object) (i : Nat) (ff : Fleet) (d : Object) (nm : ByteArray) (l : List Request) (hp : ff.Pods.length ≤ 100000) (hl : l.length ≤ 100000) :
    roll_One_6_s ff s d nm i l = .go (bif delP ff.Pods d.Name nm (el s i) then l ++ [delQ (el s i)] else l) := by
  unfold roll_One_6_s roll_One_j7 delP
  rw [if_pos (by omega), loop7 s i ff d hp]
  simp only [Res.res, held_eq, Option.bind_some]
  rw [if_pos (fitL (by simp; omega) (by decide))]
  cases decide ((el s i).Name = nm) with
  | true => rfl
  | false =>
    simp only [cond_false]
    cases decide (heldQ (el s i).Count = 0) with
    | false => rfl
    | true =>
      simp only [cond_true, optRes]
      rw [show decide (cnt1 ff.Pods (el s i).Name d.Name = 0) = decide ((cntQ ff.Pods (el s i).Name d.Name).1 = 0) from rfl]
      cases decide ((cntQ ff.Pods (el s i).Name d.Name).1 = 0) <;> rfl
theorem loop6' (s : List Object) (ff : Fleet) (d : Object) (nm : ByteArray) (hp : ff.Pods.length ≤ 100000) (hs : s.length ≤ 1000) : ∀ (k i : Nat) (l : List Request), i + k = s.length → l.length ≤ i →
    rndN (roll_One_6_s ff s d nm) k i l = .go (l ++ ((s.drop i).filter (delP ff.Pods d.Name nm)).map delQ)
  | 0, i, l, h, _ => by
    rw [List.drop_eq_nil_of_le (by omega)]
    simp [rndN]
  | k + 1, i, l, h, hl => by
    have hi : i < s.length := by omega
    have he := el_at (l := s) hi
    rw [List.drop_eq_getElem_cons hi, rndN, j6_eq s i ff d nm l hp (by omega), he]
    simp only []
    cases hd : delP ff.Pods d.Name nm s[i] with
    | true =>
      rw [cond_true, loop6' s ff d nm hp hs k (i + 1) _ (by omega) (by simp; omega), List.filter_cons_of_pos hd]
      simp
    | false =>
      rw [cond_false, loop6' s ff d nm hp hs k (i + 1) _ (by omega) (by omega), List.filter_cons_of_neg (by rw [hd]; decide)]
theorem loop6 (s : List Object) (ff : Fleet) (d : Object) (nm : ByteArray) (hp : ff.Pods.length ≤ 100000) (hs : s.length ≤ 1000) : rndN (roll_One_6_s ff s d nm) s.length 0 [] = .go ((s.filter (delP ff.Pods d.Name nm)).map delQ) := by
  rw [loop6' s ff d nm hp hs s.length 0 [] (by omega) (Nat.zero_le _), List.drop_zero, List.nil_append]
def makeQ (deploy : Object) : Request := ⟨(0 : Int), { deploy with Kind := (3 : Int), Name := nmQ deploy, Version := (0 : Int), Born := (0 : Int), Room := (⟨(0 : Int), (0 : Int)⟩ : Amount), Cordoned := false, Draining := false, Lost := false, Beat := (0 : Int), Deploy := deploy.Name, Set := (⟨#[]⟩ : ByteArray), Node := (⟨#[]⟩ : ByteArray), Phase := (0 : Int), Ready := false, Ending := false, Count := (0 : Int), Surge := (0 : Int), Slack := (0 : Int), Paused := false, Hash := (tmQ deploy), Select := [], Least := (0 : Int), Holder := (⟨#[]⟩ : ByteArray), Term := (0 : Int), Until := (0 : Int) }, (0 : Int), (⟨#[]⟩ : ByteArray), (0 : Int), (⟨#[]⟩ : ByteArray), (0 : Int), false, (0 : Int), (⟨#[]⟩ : ByteArray), (0 : Int)⟩
def spareQ (pods : List Object) (d : Object) : Int := max 0 (rdQ pods d.Name - (heldQ d.Count - heldQ d.Slack))
def roomQ (d : Object) (s : List Object) : Int := heldQ d.Count + heldQ d.Surge - sumH s
def growQ (d : Object) (s : List Object) (o : Object) : List Request := if heldQ o.Count < heldQ d.Count ∧ 0 < roomQ d s then [turnQ o (heldQ o.Count + min (heldQ d.Count - heldQ o.Count) (roomQ d s))] else []
def cutQ (d : Object) (o : Object) : List Request := if heldQ d.Count < heldQ o.Count then [turnQ o (heldQ d.Count)] else []
theorem j2_eq (d : Object) (j : Int) (s : List Object) (hl : s.length ≤ 1000) (hb : 0 ≤ j ∧ j < (s.length : Int)) (ho : OkLb (el s j.toNat)) : roll_One_j2 d j s = some (growQ d s (el s j.toNat)) := by
  unfold roll_One_j2 growQ
  simp only [held_eq, Option.bind_some]
  rw [if_pos (by omega : s.length ≤ 9223372036854775807), loop2 s (by omega)]
  simp only [Res.opt]
  rw [if_pos hb]
  generalize el s j.toNat = o at ho
  unfold roll_One_j1
  have a1 := heldQ_lo d.Count
  have a2 := heldQ_hi d.Count
  have a3 := heldQ_lo d.Surge
  have a4 := heldQ_hi d.Surge
  have a5 := sumH_lo s
  have a6 := sumH_hi s
  have a7 := heldQ_lo o.Count
  have a8 := heldQ_hi o.Count
  have w1 : IntKind.i64.wrap (heldQ d.Count + heldQ d.Surge) = heldQ d.Count + heldQ d.Surge := i64_small (by omega)
  have w2 : IntKind.i64.wrap (heldQ d.Count + heldQ d.Surge - sumH s) = roomQ d s := i64_small (by omega)
  have w3 : IntKind.i64.wrap (heldQ d.Count - heldQ o.Count) = heldQ d.Count - heldQ o.Count := i64_small (by omega)
  rw [w1, w2, w3]
  have hR : roomQ d s ≤ 2097152 := by unfold roomQ; omega
  by_cases c1 : heldQ d.Count ≤ heldQ o.Count
  · rw [decide_eq_true c1, if_neg (by omega)]
    rfl
  · rw [decide_eq_false c1]
    by_cases c2 : roomQ d s ≤ 0
    · rw [decide_eq_true c2, if_neg (by omega)]
      rfl
    · rw [decide_eq_false c2, if_pos (by omega), i64_small (by omega), turn_eq ho]
      rfl
theorem j3_eq (d : Object) (j : Int) (s : List Object) (hl : s.length ≤ 1000) (hb : 0 ≤ j ∧ j < (s.length : Int)) (ho : OkLb (el s j.toNat)) : roll_One_j3 d j s = some (cutQ d (el s j.toNat)) := by
  unfold roll_One_j3 cutQ
  simp only [held_eq, Option.bind_some]
  rw [if_pos (by omega : s.length ≤ 9223372036854775807), loop3 s (by omega)]
  simp only [Res.opt]
  rw [if_pos hb]
  generalize el s j.toNat = o at ho
  by_cases c2 : heldQ d.Count < heldQ o.Count
  · rw [decide_eq_false (by omega), if_pos c2, turn_eq ho]
    rfl
  · rw [decide_eq_true (by omega), if_neg c2]
    rfl
/-- What One asks for. -/
def oneQ (pods : List Object) (d : Object) (s : List Object) : List Request :=
  if d.Paused = true then [] else
  if 0 ≤ j0Q (nmQ d) s then
    if 0 < (growQ d s (el s (j0Q (nmQ d) s).toNat)).length then growQ d s (el s (j0Q (nmQ d) s).toNat)
    else if 0 < (cutQ d (el s (j0Q (nmQ d) s).toNat)).length then cutQ d (el s (j0Q (nmQ d) s).toNat)
    else if 0 < (shQ pods d.Name (nmQ d) s (spareQ pods d)).length then shQ pods d.Name (nmQ d) s (spareQ pods d)
    else (s.filter (delP pods d.Name (nmQ d))).map delQ
  else [makeQ d]
theorem dec_len {α : Type} (l : List α) : decide ((0 : Int) < ((l.length : Nat) : Int)) = decide (0 < l.length) := by
  by_cases h : 0 < l.length
  · rw [decide_eq_true h, decide_eq_true (by omega)]
  · rw [decide_eq_false h, decide_eq_false (by omega)]
/-- The third and fourth step. -/
theorem rest_eq (ff : Fleet) (d : Object) (s : List Object) (hp : ff.Pods.length ≤ 100000) (hl : s.length ≤ 1000) (ho : ∀ o ∈ s, OkLb o) :
    ((Option.bind (rules_Ready ff d.Name) fun r124 => if s.length ≤ 9223372036854775807 then (Res.opt (rndN (roll_One_4_s s ff d (nmQ d)) s.length 0 ((max (0 : Int) (IntKind.i64.wrap (r124 - (IntKind.i64.wrap (heldQ d.Count - heldQ d.Slack))))), [])) (fun s303 => bif (decide ((0 : Int) < ((s303.2.length : Nat) : Int))) then (some s303.2) else (Res.opt (rndN (roll_One_6_s ff s d (nmQ d)) s.length 0 []) (fun s467 => bif (decide ((0 : Int) < ((s467.length : Nat) : Int))) then (some s467) else (some [])) (fun (x : Empty) => Empty.elim x))) (fun (x : Empty) => Empty.elim x)) else none))
    = some (if 0 < (shQ ff.Pods d.Name (nmQ d) s (spareQ ff.Pods d)).length then shQ ff.Pods d.Name (nmQ d) s (spareQ ff.Pods d) else (s.filter (delP ff.Pods d.Name (nmQ d))).map delQ) := by
  have a1 := heldQ_lo d.Count
  have a2 := heldQ_hi d.Count
  have a9 := heldQ_lo d.Slack
  have a10 := heldQ_hi d.Slack
  have r1 := rdQ_lo ff.Pods d.Name
  have r2 := rdQ_hi ff.Pods d.Name
  rw [ready_eq ff _ hp]
  simp only [Option.bind_some]
  have w1 : IntKind.i64.wrap (heldQ d.Count - heldQ d.Slack) = heldQ d.Count - heldQ d.Slack := i64_small (by omega)
  have w2 : IntKind.i64.wrap (rdQ ff.Pods d.Name - (heldQ d.Count - heldQ d.Slack)) = rdQ ff.Pods d.Name - (heldQ d.Count - heldQ d.Slack) := i64_small (by omega)
  rw [w1, w2]
  have hs : max (0 : Int) (rdQ ff.Pods d.Name - (heldQ d.Count - heldQ d.Slack)) = spareQ ff.Pods d := rfl
  rw [hs]
  obtain ⟨x, hx⟩ := loop4 s ff d (nmQ d) hp hl ho (spareQ ff.Pods d) (by unfold spareQ; omega)
  rw [if_pos (by omega), hx, loop6 s ff d (nmQ d) hp hl]
  simp only [Res.opt]
  by_cases h : 0 < (shQ ff.Pods d.Name (nmQ d) s (spareQ ff.Pods d)).length
  · rw [decide_eq_true (show (0 : Int) < (((shQ ff.Pods d.Name (nmQ d) s (spareQ ff.Pods d)).length : Nat) : Int) by omega), if_pos h]
    rfl
  · rw [decide_eq_false (show ¬ (0 : Int) < (((shQ ff.Pods d.Name (nmQ d) s (spareQ ff.Pods d)).length : Nat) : Int) by omega), if_neg h, cond_false]
    generalize List.map delQ (List.filter (delP ff.Pods d.Name (nmQ d)) s) = m
    cases m with
    | nil => rfl
    | cons a m => rw [decide_eq_true (by simp)]; rfl
theorem One_eq (ff : Fleet) (d : Object) (sets : List Object) (hd : OkObject d) (hp : ff.Pods.length ≤ 100000) (hs : sets.length ≤ 1000) (ho : ∀ o ∈ sets, OkLb o) : roll_One ff d sets = some (oneQ ff.Pods d (ownS d sets)) := by
  unfold roll_One oneQ
  cases d.Paused with
  | true => rfl
  | false =>
    obtain ⟨hsn, htm⟩ := setName_eq hd
    rw [cond_false, hsn, if_neg (by decide)]
    simp only [Option.bind_some]
    rw [if_pos (by omega), own_go (roll_One_0_s sets d) sets d.Name (by omega) (fun i s => rfl)]
    simp only [Res.opt]
    have e1 : (List.filter (fun s => decide (s.Deploy = d.Name)) sets) = ownS d sets := rfl
    have e2 : (d.Name ++ (⟨#[45]⟩ : ByteArray) ++ txQ (tmQ d)) = nmQ d := rfl
    rw [e1, e2]
    have hl : (ownS d sets).length ≤ 1000 := Nat.le_trans (ownS_len d sets) hs
    have ho' : ∀ o ∈ ownS d sets, OkLb o := fun o h => ho o (ownS_mem h).1
    generalize ownS d sets = s at hl ho'
    obtain ⟨hj, hc⟩ := j0_spec (nmQ d) s (by omega)
    rw [hj]
    simp only [Option.bind_some]
    by_cases h0 : 0 ≤ j0Q (nmQ d) s
    · rw [decide_eq_true h0, if_pos h0, cond_true]
      have hb : 0 ≤ j0Q (nmQ d) s ∧ j0Q (nmQ d) s < (s.length : Int) := by
        rcases hc with ⟨e, _⟩ | ⟨j, hj, e, _⟩
        · omega
        · omega
      have hob : OkLb (el s (j0Q (nmQ d) s).toNat) := by
        rw [el_at (by omega)]
        exact ho' _ (List.getElem_mem _)
      rw [j2_eq d _ s hl hb hob, j3_eq d _ s hl hb hob]
      simp only [Option.bind_some]
      have hr := rest_eq ff d s hp hl ho'
      simp only [Res.opt] at hr
      rw [dec_len, dec_len]
      by_cases g1 : 0 < (growQ d s (el s (j0Q (nmQ d) s).toNat)).length
      · rw [decide_eq_true g1, if_pos g1]
        rfl
      · rw [decide_eq_false g1, if_neg g1, cond_false]
        by_cases g2 : 0 < (cutQ d (el s (j0Q (nmQ d) s).toNat)).length
        · rw [decide_eq_true g2, if_pos g2]
          rfl
        · rw [decide_eq_false g2, if_neg g2, cond_false]
          exact hr
    · rw [decide_eq_false h0, if_neg h0, cond_false, if_pos (fits 32 (okLb_of hd).1 (by decide)), if_pos htm]
      rfl
end Go.Proofs.Ytnoaglgjhgnnfaa.Ag
