/- Rollouts in plain Lean: what One and Done look at. -/
import Derived.Test.YtnoaglgjhgnnfaaAg2
set_option maxRecDepth 100000
set_option linter.unusedVariables false
set_option linter.unusedSimpArgs false
namespace Go.Proofs.Ytnoaglgjhgnnfaa.Ag
open Go Go.RowKit Go.Proofs.Ytnoaglgjhgnnfaa.Av Go.Proofs.Ytnoaglgjhgnnfaa.AvT Go.Proofs.Ytnoaglgjhgnnfaa.AvS

/-- Rounds over a list, as a walk along it. -/
def foldR {α σ ρ : Type} (F : α → σ → Res σ ρ) : List α → σ → Res σ ρ
  | [], s => .go s
  | a :: l, s => match F a s with
    | .go s' => foldR F l s'
    | .out r => .out r
    | .die => .die
theorem rnd_fold' {α σ ρ : Type} [Inhabited α] (F : α → σ → Res σ ρ) (l : List α) : ∀ (k i : Nat) (s : σ), i + k = l.length → rndN (fun i s => F (el l i) s) k i s = foldR F (l.drop i) s
  | 0, i, s, h => by
    rw [List.drop_eq_nil_of_le (by omega)]
    rfl
  | k + 1, i, s, h => by
    rw [List.drop_eq_getElem_cons (by omega : i < l.length), rndN, foldR, el_at (by omega)]
    cases F l[i] s with
    | go s' => exact rnd_fold' F l k (i + 1) s' (by omega)
    | out r => rfl
    | die => rfl
theorem rnd_fold {α σ ρ : Type} [Inhabited α] (F : α → σ → Res σ ρ) (l : List α) (s : σ) : rndN (fun i s => F (el l i) s) l.length 0 s = foldR F l s := by
  rw [rnd_fold' F l _ _ _ (by omega), List.drop_zero]
/-- A deployment's own. -/
def ownS (d : Object) (l : List Object) : List Object := l.filter fun s => decide (s.Deploy = d.Name)
theorem ownS_len (d : Object) (l : List Object) : (ownS d l).length ≤ l.length := List.length_filter_le _ _
theorem ownS_mem {d : Object} {l : List Object} {o : Object} (h : o ∈ ownS d l) : o ∈ l ∧ o.Deploy = d.Name := by
  have := List.mem_filter.1 h
  exact ⟨this.1, of_decide_eq_true this.2⟩
def ownF (dn : ByteArray) (o : Object) (s : List Object) : Res (List Object) Empty := bif decide (o.Deploy = dn) then (if (s ++ ([o] : List Object)).length * 312 ≤ 140737488355328 ∧ (s ++ ([o] : List Object)).length ≤ maxLen then (.go (s ++ ([o] : List Object))) else .die) else (.go s)
theorem own_go (step : Nat → List Object → Res (List Object) Empty) (l : List Object) (dn : ByteArray) (hl : l.length ≤ 100000)
    (hs : ∀ i s, step i s = bif decide ((el l i).Deploy = dn) then (if (s ++ ([(el l i)] : List Object)).length * 312 ≤ 140737488355328 ∧ (s ++ ([(el l i)] : List Object)).length ≤ maxLen then (.go (s ++ ([(el l i)] : List Object))) else .die) else (.go s)) :
    rndN step l.length 0 [] = .go (l.filter fun s => decide (s.Deploy = dn)) := by
  have e : step = fun i s => ownF dn (el l i) s := by
    funext i s
    exact hs i s
  rw [e, rnd_fold (ownF dn)]
  have key : ∀ (m : List Object) (s : List Object), s.length + m.length ≤ 100000 → foldR (ownF dn) m s = .go (s ++ m.filter fun s => decide (s.Deploy = dn)) := by
    intro m
    induction m with
    | nil => intro s _; simp [foldR]
    | cons a m ih =>
      intro s h
      rw [foldR, ownF]
      cases hd : decide (a.Deploy = dn) with
      | true =>
        simp only [cond_true]
        rw [if_pos (fitL (by simp at h ⊢; omega) (by decide)), List.filter_cons_of_pos (p := fun s : Object => decide (s.Deploy = dn)) hd]
        simp only []
        rw [ih _ (by simp at h ⊢; omega), List.append_assoc]
        rfl
      | false =>
        simp only [cond_false]
        rw [List.filter_cons_of_neg (p := fun s : Object => decide (s.Deploy = dn)) (by rw [hd]; decide)]
        exact ih s (by simp at h ⊢; omega)
  rw [key l [] (by simpa using hl), List.nil_append]
def heldQ (n : Int) : Int := min (max n 0) 1048576
theorem held_eq (n : Int) : roll_held n = some (heldQ n) := rfl
theorem heldQ_lo (n : Int) : 0 ≤ heldQ n := by unfold heldQ; omega
theorem heldQ_hi (n : Int) : heldQ n ≤ 1048576 := by unfold heldQ; omega
/-- What is asked of an object in memory. -/
def OkLb (o : Object) : Prop := o.Labels.length * 32 ≤ 140737488351232 ∧ o.Select.length * 32 ≤ 140737488351232
theorem okLb_of {o : Object} (h : OkObject o) : OkLb o := by
  unfold OkObject at h
  obtain ⟨_, _, _, _, h1, _, _, _, _, _, _, _, _, _, _, _, _, _, _, _, _, _, _, _, _, h2, _⟩ := h
  exact ⟨h1.1, h2.1⟩
theorem fits {n : Nat} (b : Nat) (h : n * b ≤ 140737488351232) (hb : 0 < b) : n * b ≤ 140737488355328 ∧ n ≤ maxLen := fitL (by omega) hb
def turnQ (o : Object) (n : Int) : Request := ⟨(1 : Int), { o with Count := n }, (0 : Int), (⟨#[]⟩ : ByteArray), o.Version, (⟨#[]⟩ : ByteArray), (0 : Int), false, (0 : Int), (⟨#[]⟩ : ByteArray), (0 : Int)⟩
theorem turn_eq {o : Object} (h : OkLb o) (n : Int) : roll_turn o n = some (turnQ o n) := by
  unfold roll_turn
  rw [if_pos (fits 32 h.1 (by decide)), if_pos (fits 32 h.2 (by decide))]
  rfl
theorem textB_size (h : Int) : (Dig.textB h).size = 13 := rfl
theorem setName_eq {d : Object} (h : OkObject d) : roll_SetName d = some (d.Name ++ (⟨#[45]⟩ : ByteArray) ++ txQ (tmQ d)) ∧ okTm d := by
  have h0 := h
  unfold OkObject at h
  obtain ⟨_, hn, _, _, hl, _, _, _, _, _, _, _, _, _, _, _, _, hi, _⟩ := h
  have ht : okTm d := by
    refine ⟨?_, Nat.ble_eq_true_of_le (by have := hl.2.1; omega)⟩
    unfold okTmL
    rw [Nat.ble_eq_true_of_le hi, Bool.true_and]
    refine List.all_eq_true.2 fun x hx => ?_
    obtain ⟨y, hy, rfl⟩ := List.mem_map.1 hx
    have := hl.2.2 y hy
    unfold OkLabel at this
    rw [Nat.ble_eq_true_of_le this.1, Nat.ble_eq_true_of_le this.2]
    rfl
  refine ⟨?_, ht⟩
  unfold roll_SetName
  have hs : (⟨#[45]⟩ : ByteArray).size = 1 := rfl
  have ha : (d.Name ++ (⟨#[45]⟩ : ByteArray)).size = d.Name.size + 1 := by rw [ByteArray.size_append]; rfl
  have hx : (txQ (tmQ d)).size = 13 := textB_size _
  rw [if_pos (by omega), if_pos ht, if_pos (by omega)]
/-- Counts of a set's pods. -/
def cnt1 (l : List Object) (nm dn : ByteArray) : Int := ((l.countP fun p => decide (p.Set = nm) && decide (p.Deploy = dn) : Nat) : Int)
def cnt2 (l : List Object) (nm dn : ByteArray) : Int := ((l.countP fun p => decide (p.Set = nm) && decide (p.Deploy = dn) && !p.Ending : Nat) : Int)
def cnt3 (l : List Object) (nm dn : ByteArray) : Int := ((l.countP fun p => decide (p.Set = nm) && decide (p.Deploy = dn) && !p.Ending && !p.Ready : Nat) : Int)
def podF (nm dn : ByteArray) (p : Object) (s : Int × Int × Int) : Res (Int × Int × Int) Empty :=
  optRes (bif (decide (p.Set = nm)) then (bif (decide (p.Deploy = dn)) then (bif p.Ending then (some ((IntKind.i64.wrap (s.1 + (1 : Int))), s.2.1, s.2.2)) else (bif p.Ready then (some ((IntKind.i64.wrap (s.1 + (1 : Int))), (IntKind.i64.wrap (s.2.1 + (1 : Int))), s.2.2)) else (some ((IntKind.i64.wrap (s.1 + (1 : Int))), (IntKind.i64.wrap (s.2.1 + (1 : Int))), (IntKind.i64.wrap (s.2.2 + (1 : Int))))))) else (some (s.1, s.2.1, s.2.2))) else (some (s.1, s.2.1, s.2.2))) fun d => .go (d.1, d.2.1, d.2.2)
theorem pod_go (nm dn : ByteArray) : ∀ (l : List Object) (a b c : Int), 0 ≤ a → 0 ≤ b → 0 ≤ c → a + l.length ≤ 1000000 → b + l.length ≤ 1000000 → c + l.length ≤ 1000000 →
    foldR (podF nm dn) l (a, b, c) = .go (a + cnt1 l nm dn, b + cnt2 l nm dn, c + cnt3 l nm dn)
  | [], a, b, c, _, _, _, _, _, _ => by simp [foldR, cnt1, cnt2, cnt3]
  | p :: l, a, b, c, ha, hb, hc, h1, h2, h3 => by
    simp only [List.length_cons] at h1 h2 h3
    rw [foldR]
    unfold podF cnt1 cnt2 cnt3
    have w1 : IntKind.i64.wrap (a + 1) = a + 1 := i64_small (by omega)
    have w2 : IntKind.i64.wrap (b + 1) = b + 1 := i64_small (by omega)
    have w3 : IntKind.i64.wrap (c + 1) = c + 1 := i64_small (by omega)
    simp only [w1, w2, w3, List.countP_cons]
    cases decide (p.Set = nm) with
    | false =>
      simp only [cond_false, optRes, Bool.false_and, Bool.false_eq_true, if_false, Nat.add_zero]
      exact pod_go nm dn l a b c ha hb hc (by omega) (by omega) (by omega)
    | true =>
      cases decide (p.Deploy = dn) with
      | false =>
        simp only [cond_false, cond_true, optRes, Bool.false_and, Bool.and_false, Bool.false_eq_true, if_false, Nat.add_zero]
        exact pod_go nm dn l a b c ha hb hc (by omega) (by omega) (by omega)
      | true =>
        cases p.Ending with
        | true =>
          simp only [cond_false, cond_true, optRes, Bool.not_true, Bool.true_and, Bool.and_false, Bool.false_and, Bool.false_eq_true, if_false, if_true, Nat.add_zero]
          refine (pod_go nm dn l (a + 1) b c (by omega) hb hc (by omega) (by omega) (by omega)).trans ?_
          unfold cnt1 cnt2 cnt3
          congr 2
          omega
        | false =>
          cases p.Ready with
          | true =>
            simp only [cond_false, cond_true, optRes, Bool.not_true, Bool.not_false, Bool.true_and, Bool.and_false, Bool.and_true, Bool.false_and, Bool.false_eq_true, if_false, if_true, Nat.add_zero]
            refine (pod_go nm dn l (a + 1) (b + 1) c (by omega) (by omega) hc (by omega) (by omega) (by omega)).trans ?_
            unfold cnt1 cnt2 cnt3
            simp only [Res.go.injEq, Prod.mk.injEq, and_true]
            omega
          | false =>
            simp only [cond_false, cond_true, optRes, Bool.not_true, Bool.not_false, Bool.true_and, Bool.and_false, Bool.and_true, Bool.false_and, Bool.false_eq_true, if_false, if_true, Nat.add_zero]
            refine (pod_go nm dn l (a + 1) (b + 1) (c + 1) (by omega) (by omega) (by omega) (by omega) (by omega) (by omega)).trans ?_
            unfold cnt1 cnt2 cnt3
            simp only [Res.go.injEq, Prod.mk.injEq]
            omega
def cntQ (l : List Object) (nm dn : ByteArray) : Int × Int × Int := (cnt1 l nm dn, cnt2 l nm dn, cnt3 l nm dn)
theorem pods_go (l : List Object) (nm dn : ByteArray) (h : l.length ≤ 100000) : foldR (podF nm dn) l (0, 0, 0) = .go (cntQ l nm dn) := by
  rw [pod_go nm dn l 0 0 0 (by omega) (by omega) (by omega) (by omega) (by omega) (by omega)]
  simp only [Int.zero_add]
  rfl
theorem loop5 (s : List Object) (i : Nat) (ff : Fleet) (d : Object) (h : ff.Pods.length ≤ 100000) : rndN (roll_One_5_s s i ff d) ff.Pods.length 0 ((0 : Int), (0 : Int), (0 : Int)) = .go (cntQ ff.Pods (el s i).Name d.Name) := by
  have e : roll_One_5_s s i ff d = fun k st => podF (el s i).Name d.Name (el ff.Pods k) st := rfl
  rw [e, rnd_fold, pods_go _ _ _ h]
theorem loop7 (s : List Object) (i : Nat) (ff : Fleet) (d : Object) (h : ff.Pods.length ≤ 100000) : rndN (roll_One_7_s s i ff d) ff.Pods.length 0 ((0 : Int), (0 : Int), (0 : Int)) = .go (cntQ ff.Pods (el s i).Name d.Name) := by
  have e : roll_One_7_s s i ff d = fun k st => podF (el s i).Name d.Name (el ff.Pods k) st := rfl
  rw [e, rnd_fold, pods_go _ _ _ h]
end Go.Proofs.Ytnoaglgjhgnnfaa.Ag
