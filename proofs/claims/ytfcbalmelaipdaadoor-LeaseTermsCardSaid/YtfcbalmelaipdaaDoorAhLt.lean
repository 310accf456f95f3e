/- LeaseTerms in plain words: of those who take a lease by turns one at most holds it. -/
import Derived.Test.YtfcbalmelaipdaaDoorAg1
import Derived.Test.YtfcbalmelaipdaaDoorAvZ
set_option linter.unusedVariables false
set_option linter.unusedSimpArgs false
set_option maxRecDepth 100000
namespace Go.Proofs.YtfcbalmelaipdaaDoor.Ag
open Go Go.RowKit Go.Proofs.YtfcbalmelaipdaaDoor.Av Go.Proofs.YtfcbalmelaipdaaDoor.AvS

theorem pick_ok (k n : Int) (h1 : 1 ≤ n) (h2 : n ≤ 1000) : ∃ r, kit_Pick k n = some r ∧ 0 ≤ r ∧ r < n := by
  have ha := Int.tmod_lt_of_pos k (show (0 : Int) < n by omega)
  have hb := Int.lt_tmod_of_pos k (show (0 : Int) < n by omega)
  unfold kit_Pick kit_Pick_j0
  rw [decide_eq_false (show ¬ n < 1 by omega), cond_false, if_pos (show n ≠ 0 by omega)]
  by_cases h : k.tmod n < 0
  · rw [decide_eq_true h, cond_true]
    refine ⟨_, rfl, ?_⟩
    rw [i64_small (by omega)]
    omega
  · rw [decide_eq_false h, cond_false]
    exact ⟨_, rfl, by omega, ha⟩
abbrev nms : List ByteArray := [(⟨#[97, 45, 49]⟩ : ByteArray), (⟨#[98, 45, 49]⟩ : ByteArray), (⟨#[99, 45, 49]⟩ : ByteArray)]
theorem nms_ne (i : Nat) (h : i < 3) : el nms i ≠ (⟨#[]⟩ : ByteArray) := by
  match i, h with
  | 0, _ => decide
  | 1, _ => decide
  | 2, _ => decide
theorem nms_inj (i j : Nat) (h : i < 3) (k : j < 3) : decide (el nms i = el nms j) = decide (i = j) := by
  match i, h, j, k with
  | 0, _, 0, _ => decide
  | 0, _, 1, _ => decide
  | 0, _, 2, _ => decide
  | 1, _, 0, _ => decide
  | 1, _, 1, _ => decide
  | 1, _, 2, _ => decide
  | 2, _, 0, _ => decide
  | 2, _, 1, _ => decide
  | 2, _, 2, _ => decide
/-- What Take answers. -/
theorem take_held (l : Object) (s : ByteArray) (now : Int) (hs : s ≠ ⟨#[]⟩) (h0 : 0 ≤ now) (h1 : now ≤ 4611686018427387904) (hh : l.Holder ≠ ⟨#[]⟩) (hn : l.Holder ≠ s) (hu : now < l.Until) : ∃ x, lease_Take l s now = some (x, .no 17) := by
  unfold lease_Take lease_Over lease_Take_j0 lease_Take_j1
  simp only [Option.bind_some, decide_eq_false hs, cond_false, decide_eq_false (show ¬ now < 0 by omega), decide_eq_false (show ¬ 4611686018427387904 < now by omega), decide_eq_false hh, decide_eq_false hn, decide_eq_false (show ¬ l.Until ≤ now by omega), Bool.not_false, cond_true]
  exact ⟨_, rfl⟩
def next (l : Object) (s : ByteArray) (now : Int) : Object := { l with Holder := s, Term := if l.Holder = s ∧ now < l.Until then l.Term else l.Term + 1, Until := now + 4 }
theorem take_ok (l : Object) (s : ByteArray) (now : Int) (hs : s ≠ ⟨#[]⟩) (h0 : 0 ≤ now) (h1 : now ≤ 1000000) (hh : l.Holder = ⟨#[]⟩ ∨ l.Holder = s ∨ l.Until ≤ now) (ht : 0 ≤ l.Term) (ht1 : l.Term ≤ 1000000) (hl : l.Labels = []) (hl' : l.Select = []) :
    lease_Take l s now = some (next l s now, .ok) := by
  unfold lease_Take lease_Over lease_Take_j0 lease_Take_j1 lease_Take_j2 lease_Take_j4 lease_Take_j3 lease_Holds
  have hj1 : (bif (decide (l.Holder = (⟨#[]⟩ : ByteArray))) then (some false) else (bif (decide (l.Holder = s)) then (some false) else (some (!(decide (l.Until ≤ now)))))) = some false := by
    by_cases a : l.Holder = (⟨#[]⟩ : ByteArray)
    · rw [decide_eq_true a]; rfl
    · rw [decide_eq_false a, cond_false]
      by_cases b : l.Holder = s
      · rw [decide_eq_true b]; rfl
      · rw [decide_eq_false b, cond_false, decide_eq_true (show l.Until ≤ now by rcases hh with h | h | h <;> first | exact absurd h a | exact absurd h b | exact h)]; rfl
  rw [Option.bind_some, decide_eq_false hs, cond_false, decide_eq_false (show ¬ now < 0 by omega), cond_false, Option.bind_some, decide_eq_false (show ¬ 4611686018427387904 < now by omega), cond_false, hj1, Option.bind_some, cond_false,
    decide_eq_false (show ¬ l.Term < 0 by omega), cond_false, Option.bind_some, decide_eq_false (show ¬ 4611686018427387904 < l.Term by omega), cond_false, hl, hl', if_pos (by decide), if_pos (by decide)]
  unfold next
  by_cases a : l.Until ≤ now
  · rw [decide_eq_true a, cond_true, Option.bind_some, cond_true, Option.bind_some, i64_small (by omega), i64_small (by omega), if_neg (by omega)]
    simp only [hl, hl']
  · rw [decide_eq_false a, cond_false, cond_false, Option.bind_some]
    by_cases b : l.Holder = s
    · rw [decide_eq_true b, decide_eq_true rfl]
      simp only [Bool.and_true, Bool.not_true, cond_false, Option.bind_some]
      rw [i64_small (by omega), if_pos ⟨b, by omega⟩]
      simp only [hl, hl', b]
    · rw [decide_eq_false b]
      simp only [Bool.false_and, Bool.not_false, cond_true, Option.bind_some]
      rw [i64_small (by omega), i64_small (by omega), if_neg (fun q => b q.1)]
      simp only [hl, hl']
theorem holds_eq (l : Object) (s : ByteArray) (t : Int) (hs : s ≠ ⟨#[]⟩) : lease_Holds l s t = some (decide (l.Holder = s) && (decide (l.Term = t) && true)) := by
  unfold lease_Holds
  rw [decide_eq_false hs, cond_false]
theorem next_holder (l : Object) (s : ByteArray) (now : Int) : (next l s now).Holder = s := rfl
theorem next_until (l : Object) (s : ByteArray) (now : Int) : (next l s now).Until = now + 4 := rfl
/-- All three are asked whether they hold it. -/
theorem three (r : Object × Er) (t w : Int) (hw : 0 ≤ w ∧ w < 3) (hh : r.1.Holder = el nms w.toNat) (ht : r.1.Term = t) : rndN (law17_LeaseTerms_2_s r t w) 3 0 () = .go () := by
  refine rnd_pass 3 0 fun j _ hj => ?_
  unfold law17_LeaseTerms_2_s
  rw [if_pos (show j < nms.length from hj), holds_eq _ _ _ (nms_ne j (by omega)), hh, nms_inj _ _ (by omega) (by omega), ht, decide_eq_true rfl]
  show (bif ((decide (w.toNat = j) && (true && true)) == decide ((j : Int) = w)) then Res.go () else Res.die) = _
  rw [show decide (w.toNat = j) = decide ((j : Int) = w) by simp only [decide_eq_decide]; omega]
  simp
theorem three' (r : Object × Er) (t w : Int) (hw : 0 ≤ w ∧ w < 3) (hh : r.1.Holder = el nms w.toNat) (ht : r.1.Term = t) : rndN (law17_LeaseTerms_0_s r t w) 3 0 () = .go () := three r t w hw hh ht
structure Inv (i : Nat) (s : Int × Int × Int × Int × Object) : Prop where
  now : 0 ≤ s.1 ∧ s.1 ≤ 6 * (i : Int)
  who : 0 ≤ s.2.1 ∧ s.2.1 < 3
  til : s.2.2.1 ≤ s.1 + 4
  term : 0 ≤ s.2.2.2.1 ∧ s.2.2.2.1 ≤ (i : Int)
  holder : s.2.2.2.2.Holder = el nms s.2.1.toNat
  hterm : s.2.2.2.2.Term = s.2.2.2.1
  htil : s.2.2.2.2.Until = s.2.2.1
  lab : s.2.2.2.2.Labels = []
  sel : s.2.2.2.2.Select = []
theorem round (script : List law17_Act) (i : Nat) (hi : i ≤ 1000) (s : Int × Int × Int × Int × Object) (h : Inv i s) : ∃ s', law17_LeaseTerms_1_s script i s = .go s' ∧ Inv (i + 1) s' := by
  obtain ⟨a, w0, u, t, l⟩ := s
  obtain ⟨h1, h2, h3, h4, h5, h6, h7, h8, h9⟩ := h
  simp only at h1 h2 h3 h4 h5 h6 h7 h8 h9
  unfold law17_LeaseTerms_1_s law17_LeaseTerms_j5
  simp only
  obtain ⟨r, e1, r1, r2⟩ := pick_ok (el script i).Later 7 (by omega) (by omega)
  obtain ⟨w, e2, w1, w2⟩ := pick_ok (el script i).Who 3 (by omega) (by omega)
  rw [e1, Option.bind_some, e2, Option.bind_some, if_pos (show 0 ≤ w ∧ w < ((nms.length : Nat) : Int) from ⟨w1, w2⟩), i64_small (n := a + r) (by omega)]
  have hs := nms_ne w.toNat (by omega)
  have hne := nms_ne w0.toNat (by omega)
  have hinj := nms_inj w0.toNat w.toNat (by omega) (by omega)
  have hj2 : law17_LeaseTerms_j2 a r w0 u w = some (decide (w0 ≠ w ∧ a + r < u)) := by
    unfold law17_LeaseTerms_j2
    rw [decide_eq_true h2.1, cond_true, i64_small (by omega)]
    by_cases e : w0 = w
    · rw [decide_eq_true e, cond_true, decide_eq_false (fun q => q.1 e)]
    · rw [decide_eq_false e, cond_false]
      congr 1
      simp [e]
  have hj3 : law17_LeaseTerms_j3 a r w0 u w = some (decide (¬ (w0 = w ∧ a + r < u))) := by
    unfold law17_LeaseTerms_j3
    rw [i64_small (by omega)]
    by_cases e : w0 = w
    · rw [decide_eq_true e, cond_true]
      congr 1
      simp only [decide_eq_decide]
      omega
    · rw [decide_eq_false e, cond_false]
      congr 1
      simp [e]
  have hww : (el nms w0.toNat = el nms w.toNat) ↔ w0 = w := by
    have := decide_eq_decide.1 hinj
    rw [this]
    omega
  by_cases hheld : w0 ≠ w ∧ a + r < u
  · obtain ⟨x, hx⟩ := take_held l (el nms w.toNat) (a + r) hs (by omega) (by omega) (by rw [h5]; exact hne) (by rw [h5, ne_eq, hww]; exact hheld.1) (by rw [h7]; exact hheld.2)
    rw [hx, Option.bind_some, hj2, Option.bind_some, decide_eq_true hheld, cond_true]
    rw [show plainQ (Er.no 17) 17 = true by decide, cond_true]
    exact ⟨_, rfl, ⟨by simp only; omega, h2, by simp only; omega, by simp only; omega, h5, h6, h7, h8, h9⟩⟩
  · have hk := take_ok l (el nms w.toNat) (a + r) hs (by omega) (by omega) (by rw [h5, h7, hww]; omega) (by omega) (by omega) h8 h9
    rw [hk, Option.bind_some, hj2, Option.bind_some, decide_eq_false hheld, cond_false, show Er.isOk Er.ok = true from rfl, cond_true]
    obtain ⟨y, hy⟩ : ∃ y, next l (el nms w.toNat) (a + r) = y := ⟨_, rfl⟩
    have y1 : y.Holder = el nms w.toNat := by rw [← hy]; rfl
    have y2 : y.Until = a + r + 4 := by rw [← hy]; rfl
    have y3 : y.Kind = l.Kind := by rw [← hy]; rfl
    have y4 : y.Name = l.Name := by rw [← hy]; rfl
    have y5 : y.Labels = [] := by rw [← hy]; exact h8
    have y6 : y.Select = [] := by rw [← hy]; exact h9
    have y7 : y.Term = if w0 = w ∧ a + r < u then t else t + 1 := by
      rw [← hy]
      unfold next
      simp only [h5, h6, h7, hww]
    rw [hy]
    have hj4 : law17_LeaseTerms_j4 a r w0 u t w (y, Er.ok) = some y.Term := by
      unfold law17_LeaseTerms_j4
      rw [hj3, Option.bind_some]
      by_cases e : w0 = w ∧ a + r < u
      · rw [decide_eq_false (fun q => q e), cond_false, y7, if_pos e]
      · rw [decide_eq_true e, cond_true, holds_eq _ _ _ hs, Option.bind_some]
        rw [y7, if_neg e, decide_eq_false (show ¬ t + 1 = t by omega)]
        simp only [Bool.and_false, Bool.false_and, cond_false]
        rw [i64_small (by omega)]
    have y8 : 0 ≤ y.Term ∧ y.Term ≤ (i : Int) + 1 := by rw [y7]; split <;> omega
    rw [hj4, Option.bind_some, three _ _ _ ⟨w1, w2⟩ y1 rfl]
    simp only [Res.opt]
    simp only [decide_true, cond_true]
    rw [i64_small (n := a + r + 4) (by omega), decide_eq_true y2, cond_true, decide_eq_true y3, cond_true, decide_eq_true y4, cond_true]
    unfold lease_Over
    rw [Option.bind_some, y2, decide_eq_false (by omega), cond_false, Option.bind_some, i64_small (n := a + r + 4 - 1) (by omega), decide_eq_false (by omega), cond_false, Option.bind_some, decide_eq_true (by omega), cond_true]
    exact ⟨_, rfl, ⟨by simp only; omega, ⟨w1, w2⟩, by simp only; omega, by simp only; omega, y1, rfl, y2, y5, y6⟩⟩
theorem pure_LeaseTerms (script : List law17_Act) (O : script.length * 16 ≤ 140737488351232 ∧ script.length ≤ 9223372036854775807 ∧ ∀ (x : law17_Act), x ∈ script → Oklaw17_Act x) : law17_LeaseTerms script = some true := by
  unfold law17_LeaseTerms
  have hlen := O.2.1
  rw [show law17_works = some true by kernel_rfl, Option.bind_some, cond_true]
  by_cases hl : (1000 : Int) < ((script.length : Nat) : Int)
  · rw [decide_eq_true hl, cond_true]
  rw [decide_eq_false hl, cond_false]
  by_cases h0 : (0 : Int) < ((script.length : Nat) : Int)
  case neg => rw [decide_eq_false h0, cond_false]
  rw [decide_eq_true h0, cond_true, if_pos ⟨by omega, h0⟩]
  obtain ⟨r, e1, r1, r2⟩ := pick_ok (el script 0).Later 7 (by omega) (by omega)
  obtain ⟨w, e2, w1, w2⟩ := pick_ok (el script 0).Who 3 (by omega) (by omega)
  have hs := nms_ne w.toNat (by omega)
  rw [e1, Option.bind_some, e2, Option.bind_some, if_pos (show 0 ≤ w ∧ w < ((nms.length : Nat) : Int) from ⟨w1, w2⟩), i64_small (n := 0 + r) (by omega)]
  obtain ⟨l, hl0⟩ : ∃ l, l = (⟨(5 : Int), (⟨#[115, 99, 104, 101, 100]⟩ : ByteArray), (0 : Int), (0 : Int), [], (⟨(0 : Int), (0 : Int)⟩ : Amount), false, false, false, (0 : Int), (⟨#[]⟩ : ByteArray), (⟨#[]⟩ : ByteArray), (⟨#[]⟩ : ByteArray), (0 : Int), false, false, (⟨(0 : Int), (0 : Int)⟩ : Amount), (⟨#[]⟩ : ByteArray), (0 : Int), (0 : Int), (0 : Int), (0 : Int), (0 : Int), false, (0 : Int), [], (0 : Int), (⟨#[]⟩ : ByteArray), (0 : Int), (0 : Int)⟩ : Object) := ⟨_, rfl⟩
  rw [← hl0]
  have l1 : l.Holder = ⟨#[]⟩ := by rw [hl0]
  have l2 : l.Term = 0 := by rw [hl0]
  have l3 : l.Kind = 5 := by rw [hl0]
  have l4 : l.Name = ⟨#[115, 99, 104, 101, 100]⟩ := by rw [hl0]
  have l5 : l.Labels = [] := by rw [hl0]
  have l6 : l.Select = [] := by rw [hl0]
  have hk := take_ok l (el nms w.toNat) (0 + r) hs (by omega) (by omega) (.inl l1) (by omega) (by omega) l5 l6
  obtain ⟨y, hy⟩ : ∃ y, next l (el nms w.toNat) (0 + r) = y := ⟨_, rfl⟩
  have y1 : y.Holder = el nms w.toNat := by rw [← hy]; rfl
  have y2 : y.Until = 0 + r + 4 := by rw [← hy]; rfl
  have y3 : y.Kind = 5 := by rw [← hy]; exact l3
  have y4 : y.Name = ⟨#[115, 99, 104, 101, 100]⟩ := by rw [← hy]; exact l4
  have y5 : y.Labels = [] := by rw [← hy]; exact l5
  have y6 : y.Select = [] := by rw [← hy]; exact l6
  have y7 : y.Term = 1 := by
    rw [← hy]
    unfold next
    simp only [l1, l2]
    rw [if_neg (fun q => hs q.1.symm)]
    rfl
  rw [hk, Option.bind_some, show Er.isOk Er.ok = true from rfl, cond_true, hy]
  have hj1 : law17_LeaseTerms_j1 r w (y, Er.ok) = some 1 := by
    unfold law17_LeaseTerms_j1 law17_LeaseTerms_j0
    rw [decide_eq_false (show ¬ (-1 : Int) = w by omega), cond_false, Option.bind_some, cond_true, holds_eq _ _ _ hs, Option.bind_some, y7, decide_eq_false (show ¬ (1 : Int) = 0 by omega)]
    simp only [Bool.and_false, Bool.false_and, cond_false]
  rw [hj1, Option.bind_some, three' _ _ _ ⟨w1, w2⟩ y1 y7]
  simp only [Res.opt]
  rw [decide_eq_true y7, cond_true, i64_small (n := 0 + r + 4) (by omega), decide_eq_true y2, cond_true, decide_eq_true y3, cond_true, decide_eq_true y4, cond_true]
  unfold lease_Over
  rw [Option.bind_some, y2, decide_eq_false (by omega), cond_false, Option.bind_some, i64_small (n := 0 + r + 4 - 1) (by omega), decide_eq_false (by omega), cond_false, Option.bind_some, decide_eq_true (by omega), cond_true]
  rw [if_pos hlen, if_pos (by omega)]
  obtain ⟨s', hs', _⟩ := rnd_inv (I := Inv) (step := law17_LeaseTerms_1_s script) (script.length - 1) 1 (0 + r, w, 0 + r + 4, 1, y) ⟨by simp only; omega, ⟨w1, w2⟩, by simp only; omega, by simp only; omega, y1, y7, y2, y5, y6⟩ (fun j s h1 h2 hI => round script j (by omega) s hI)
  rw [hs']
end Go.Proofs.YtfcbalmelaipdaaDoor.Ag
