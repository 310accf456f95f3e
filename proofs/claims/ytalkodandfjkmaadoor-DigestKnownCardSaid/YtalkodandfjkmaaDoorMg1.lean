/- Texts of this proof laid together: AvL, AvV, AvD, AvM, AvN, AvP, AvW, AvX, AvB. -/
import Derived.Test.YtalkodandfjkmaaDoorMg0
import Derived.IntWalk
import Derived.SizedLaws
import Derived.ChangeSlices
import Derived.ChangeReads
/- Rows of operations whose order is drawn: whatever order, the text's order answers. -/
set_option linter.unusedVariables false
set_option linter.unusedSimpArgs false
namespace Go.Proofs.YtalkodandfjkmaaDoor.Av
open Go Go.RowKit
variable {P : Program}
section
variable {S : Sto} {H : List Blk} {pl : Pl} {G : World → Prop} {B : Nat} {w0 w : World} {C : Ctx}

theorem pureOp_congr {t1 t2 : List AV} {o : Oper} (h : ∀ x ∈ o.op.operands, evA t1 x = evA t2 x) (hc : ∀ r r' : Operand → Value, (∀ y ∈ o.op.operands, r y = r' y) → execOp r o = execOp r' o) : pureOp P t1 o = pureOp P t2 o := by
  have h1 : o.op.operands.toList.all (fun x => (evP t1 x).isSome) = o.op.operands.toList.all (fun x => (evP t2 x).isSome) := by
    rw [Bool.eq_iff_iff, List.all_eq_true, List.all_eq_true]
    constructor <;> intro k x hx
    · have := k x hx; simpa only [evP, h x (Array.mem_toList_iff.1 hx)] using this
    · have := k x hx; simpa only [evP, h x (Array.mem_toList_iff.1 hx)] using this
  have h2 : execOp (evR t1) o = execOp (evR t2) o := hc _ _ fun y hy => by simp only [evR, h y hy]
  unfold pureOp
  rw [h1, h2]

theorem map_congr' {t1 t2 : List AV} {xs : List Operand} (h : ∀ x ∈ xs, evA t1 x = evA t2 x) : xs.map (evA t1) = xs.map (evA t2) := List.map_congr_left h
theorem omap_congr {t1 t2 : List AV} {x : Option Operand} (h : ∀ y ∈ x, evA t1 y = evA t2 y) : x.map (evA t1) = x.map (evA t2) := by
  cases x with
  | none => rfl
  | some y => simp [h y rfl]

theorem evOpQ_congr {t1 t2 : List AV} {o : Oper} (h : ∀ x ∈ o.op.operands, evA t1 x = evA t2 x) : evOpQ C P t1 H o = evOpQ C P t2 H o := by
  cases ho : o.op with
  | move x => have hx := h x (by simp [ho, Op.operands]); simp only [evOpQ, ho, hx]
  | assign x => have hx := h x (by simp [ho, Op.operands]); simp only [evOpQ, ho, hx]
  | pick c x y =>
    have hc := h c (by simp [ho, Op.operands])
    have hx := h x (by simp [ho, Op.operands])
    have hy := h y (by simp [ho, Op.operands])
    simp only [evOpQ, ho, hc, hx, hy]
  | load t x => have hx := h x (by simp [ho, Op.operands]); simp only [evOpQ, ho, hx]
  | nilCheck x => have hx := h x (by simp [ho, Op.operands]); simp only [evOpQ, ho, hx]
  | fieldAddr t x f => have hx := h x (by simp [ho, Op.operands]); simp only [evOpQ, ho, hx]
  | field t x f => have hx := h x (by simp [ho, Op.operands]); simp only [evOpQ, ho, hx]
  | indexAddr t x i =>
    have hx := h x (by simp [ho, Op.operands])
    have hi := h i (by simp [ho, Op.operands])
    simp only [evOpQ, ho, hx, hi]
  | slice t x lo hi mx =>
    have hx := h x (by simp [ho, Op.operands])
    have h1 := omap_congr (t1 := t1) (t2 := t2) (x := lo) (fun y hy => h y (by cases lo <;> simp_all [ho, Op.operands]))
    have h2 := omap_congr (t1 := t1) (t2 := t2) (x := hi) (fun y hy => h y (by cases hi <;> simp_all [ho, Op.operands]))
    have h3 := omap_congr (t1 := t1) (t2 := t2) (x := mx) (fun y hy => h y (by cases mx <;> simp_all [ho, Op.operands]))
    simp only [evOpQ, ho, hx, h1, h2, h3]
  | makeInterface t x => have hx := h x (by simp [ho, Op.operands]); simp only [evOpQ, ho, hx]
  | makeFunc fn first caps =>
    have hc := map_congr' (t1 := t1) (t2 := t2) (xs := caps.toList) (fun x hx => h x (by simp at hx; simp [ho, Op.operands, hx]))
    cases fn <;> simp only [evOpQ, ho, hc]
  | extract x i => have hx := h x (by simp [ho, Op.operands]); simp only [evOpQ, ho, hx]
  | binOp op t x y t' =>
    have hx := h x (by simp [ho, Op.operands])
    have hy := h y (by simp [ho, Op.operands])
    have hp := pureOp_congr (P := P) h (congr_bin ho)
    cases op <;> simp only [evOpQ, ho, hx, hy, hp]
  | build t parts =>
    have hp : (parts.toList.map fun p => (p.1, evA t1 p.2)) = (parts.toList.map fun p => (p.1, evA t2 p.2)) := by
      apply List.map_congr_left
      intro p hp
      rw [h p.2 (by simp only [ho, Op.operands, List.mem_toArray]; exact List.mem_map.2 ⟨p, hp, rfl⟩)]
    simp only [evOpQ, ho, hp]
  | unOp op t x =>
    have hp := pureOp_congr (P := P) h (congr_un ho)
    simp only [evOpQ, ho, hp]
  | index t x i =>
    have hx := h x (by simp [ho, Op.operands])
    have hi := h i (by simp [ho, Op.operands])
    simp only [evOpQ, ho, hx, hi]
  | convert s d x => have hx := h x (by simp [ho, Op.operands]); simp only [evOpQ, ho, hx]
  | call c =>
    have ha := map_congr' (t1 := t1) (t2 := t2) (xs := c.args.toList) (fun x hx => h x (by simp at hx; simp [ho, Op.operands, Call.operands, hx]))
    cases hc : c.callee with
    | value f =>
      have hf := h f (by simp [ho, Op.operands, Call.operands, hc])
      simp only [evOpQ, ho, hc, hf, ha]
    | invoke r m => simp only [evOpQ, ho, hc]
    | builtin b =>
      have hp := pureOp_congr (P := P) h (congr_builtin ho hc)
      cases b <;> simp only [evOpQ, ho, hc, hp, ha]
      split
      · rename_i x t hxs hts
        have hx := h x (by
          have : x ∈ c.args.toList := by rw [hxs]; exact List.mem_singleton.2 rfl
          simp at this
          simp [ho, Op.operands, Call.operands, this])
        simp only [hx]
      · rfl
  | _ => simp only [evOpQ, ho]

/-- The slots, with what the listed ones yield laid in. -/
def lay (listed : Nat → Bool) : Nat → List Oper → List AV → List AV → List AV
  | k, o :: os, x :: xs, tmps => lay listed (k + 1) os xs (if listed k then put tmps o.dst x else tmps)
  | _, _, _, tmps => tmps

theorem put_length (tmps : List AV) (d : Option Nat) (x : AV) : (put tmps d x).length = tmps.length := by cases d <;> simp [put]
theorem put_ne {tmps : List AV} {d : Option Nat} {x : AV} {t : Nat} (h : d ≠ some t) : (put tmps d x)[t]? = tmps[t]? := by
  cases d with
  | none => rfl
  | some d => exact List.getElem?_set_ne (fun e => h (by rw [e]))
theorem lay_length (listed : Nat → Bool) : ∀ (k : Nat) (os : List Oper) (xs tmps : List AV), (lay listed k os xs tmps).length = tmps.length
  | k, [], xs, tmps => rfl
  | k, o :: os, [], tmps => rfl
  | k, o :: os, x :: xs, tmps => by
    rw [lay, lay_length listed (k + 1) os xs]
    split
    · exact put_length _ _ _
    · rfl
theorem lay_shift (listed : Nat → Bool) : ∀ (k : Nat) (os : List Oper) (xs tmps : List AV), lay listed (k + 1) os xs tmps = lay (fun j => listed (j + 1)) k os xs tmps
  | k, [], xs, tmps => rfl
  | k, o :: os, [], tmps => rfl
  | k, o :: os, x :: xs, tmps => by rw [lay, lay, lay_shift listed (k + 1) os xs]
/-- At a slot only those count that write it. -/
theorem lay_congr {l1 l2 : Nat → Bool} {t : Nat} : ∀ (k : Nat) (os : List Oper) (xs t1 t2 : List AV), (∀ (j : Nat) o, os[j]? = some o → o.dst = some t → l1 (k + j) = l2 (k + j)) → t1.length = t2.length → t1[t]? = t2[t]? → (lay l1 k os xs t1)[t]? = (lay l2 k os xs t2)[t]?
  | k, [], xs, t1, t2, _, _, h => h
  | k, o :: os, [], t1, t2, _, _, h => h
  | k, o :: os, x :: xs, t1, t2, hw, hl, h => by
    rw [lay, lay]
    refine lay_congr (k + 1) os xs _ _ (fun j p hp hd => by have := hw (j + 1) p (by simpa using hp) hd; rwa [show k + 1 + j = k + (j + 1) by omega]) ?_ ?_
    · split <;> split <;> simp [put_length, hl]
    · by_cases hd : o.dst = some t
      · have := hw 0 o rfl hd
        simp only [Nat.add_zero] at this
        rw [this]
        split
        · rw [hd]
          simp only [put, List.getElem?_set, hl]
          split <;> simp_all
        · exact h
      · split <;> split <;> simp only [put_ne hd, h]
/-- A slot that one alone writes. -/
theorem lay_at {l : Nat → Bool} {t : Nat} : ∀ (k : Nat) (os : List Oper) (xs tmps : List AV) (j : Nat) (o : Oper) (x : AV), os[j]? = some o → xs[j]? = some x → o.dst = some t → l (k + j) = true → (∀ (i : Nat) p, os[i]? = some p → p.dst = some t → i = j) → t < tmps.length → (lay l k os xs tmps)[t]? = some x
  | k, [], xs, tmps, j, o, x, ho, _, _, _, _, _ => by simp at ho
  | k, q :: os, [], tmps, j, o, x, _, hx, _, _, _, _ => by simp at hx
  | k, q :: os, y :: xs, tmps, 0, o, x, ho, hx, hd, hl, hu, ht => by
    simp at ho hx
    subst ho
    subst hx
    rw [lay]
    simp only [Nat.add_zero] at hl
    rw [if_pos hl]
    have hn : ∀ (i : Nat) p, os[i]? = some p → p.dst ≠ some t := fun i p hp hd => by have := hu (i + 1) p (by simpa using hp) hd; omega
    rw [lay_congr (l2 := fun _ => false) (k + 1) os xs _ (put tmps q.dst y) (fun j p hp hd => absurd hd (hn j p hp)) rfl rfl]
    have hnone : ∀ (k : Nat) (os : List Oper) (xs tmps : List AV), lay (fun _ => false) k os xs tmps = tmps := by
      intro k os
      induction os generalizing k with
      | nil => intro xs tmps; rfl
      | cons o os ih => intro xs tmps; cases xs with
        | nil => rfl
        | cons x xs => rw [lay]; simp [ih]
    rw [hnone, hd]
    simp [put, ht]
  | k, q :: os, y :: xs, tmps, j + 1, o, x, ho, hx, hd, hl, hu, ht => by
    rw [lay]
    refine lay_at (k + 1) os xs _ j o x (by simpa using ho) (by simpa using hx) hd (by rwa [show k + 1 + j = k + (j + 1) by omega]) (fun i p hp hpd => by have := hu (i + 1) p (by simpa using hp) hpd; omega) ?_
    split
    · rwa [put_length]
    · exact ht

/-- What the text's order told of an operation. -/
def StepOk (C : Ctx) (P : Program) (H : List Blk) (ops : Array Oper) (tmps : List AV) (o : Oper) (x : AV) : Prop :=
  (wantA ops tmps o = some true ∧ evOpQ C P tmps H o = some x) ∨ (wantA ops tmps o = some false ∧ x = .v undef)

theorem evQs_inv {ops : Array Oper} : ∀ (os : List Oper) (tmps xs t : List AV), evQs C P H ops os tmps = some (xs, t) → xs.length = os.length ∧ t = lay (fun _ => true) 0 os xs tmps ∧ ∀ (i : Nat) o, os[i]? = some o → ∃ x, xs[i]? = some x ∧ StepOk C P H ops (lay (fun j => decide (j < i)) 0 os xs tmps) o x
  | [], tmps, xs, t, e => by
    simp only [evQs, Option.some.injEq, Prod.mk.injEq] at e
    obtain ⟨rfl, rfl⟩ := e
    exact ⟨rfl, rfl, fun i o h => by simp at h⟩
  | o :: os, tmps, xs, t, e => by
    have key : ∀ x xs', evQs C P H ops os (put tmps o.dst x) = some (xs', t) → StepOk C P H ops tmps o x → xs = x :: xs' → xs.length = (o :: os).length ∧ t = lay (fun _ => true) 0 (o :: os) xs tmps ∧ ∀ (i : Nat) p, (o :: os)[i]? = some p → ∃ x, xs[i]? = some x ∧ StepOk C P H ops (lay (fun j => decide (j < i)) 0 (o :: os) xs tmps) p x := by
      intro x xs' h1 h2 h3
      subst h3
      obtain ⟨i1, i2, i3⟩ := evQs_inv os _ xs' t h1
      refine ⟨by simp [i1], ?_, fun i p hp => ?_⟩
      · rw [lay, lay_shift, i2]
        rfl
      · cases i with
        | zero =>
          simp at hp
          subst hp
          refine ⟨x, rfl, ?_⟩
          have hnone : ∀ (k : Nat) (os : List Oper) (xs tmps : List AV), lay (fun j => decide (j < 0)) k os xs tmps = tmps := by
            intro k os
            induction os generalizing k with
            | nil => intro xs tmps; rfl
            | cons o os ih => intro xs tmps; cases xs with
              | nil => rfl
              | cons x xs => rw [lay, ih]; simp
          rw [hnone]
          exact h2
        | succ i =>
          obtain ⟨y, hy, hs⟩ := i3 i p (by simpa using hp)
          refine ⟨y, by simpa using hy, ?_⟩
          rw [lay, lay_shift]
          have : (fun j => decide (j + 1 < i + 1)) = fun j => decide (j < i) := by funext j; simp
          rw [this]
          simpa using hs
    simp only [evQs] at e
    split at e
    · rename_i hw
      split at e
      · rename_i x hx
        split at e
        · rename_i xs' t' h1
          simp only [Option.some.injEq, Prod.mk.injEq] at e
          obtain ⟨e1, rfl⟩ := e
          exact key x xs' h1 (.inl ⟨hw, hx⟩) e1.symm
        · cases e
      · cases e
    · rename_i hw
      split at e
      · rename_i xs' t' h1
        simp only [Option.some.injEq, Prod.mk.injEq] at e
        obtain ⟨e1, rfl⟩ := e
        exact key (.v undef) xs' h1 (.inr ⟨hw, rfl⟩) e1.symm
      · cases e
    · cases e

theorem drawOk_inv {ops : List Oper} (h : drawOk ops = true) {i : Nat} {o : Oper} (ho : ops[i]? = some o) :
    (∀ e ∈ o.after, e.on < i) ∧ ∀ (j : Nat) p t, ops[j]? = some p → p.dst = some t → i ≠ j → o.dst ≠ some t ∧ (t ∈ reads ops o → if j < i then j ∈ afters o else i ∈ afters p) := by
  have hm : (o, i) ∈ ops.zipIdx := by
    rw [List.mem_zipIdx_iff_getElem?]
    exact ho
  have := List.all_eq_true.1 h _ hm
  simp only [Bool.and_eq_true, List.all_eq_true] at this
  obtain ⟨⟨h1, _⟩, h2⟩ := this
  refine ⟨fun e he => by simpa using h1 e (by simpa using he), fun j p t hp hd hij => ?_⟩
  have hm' : (p, j) ∈ ops.zipIdx := by
    rw [List.mem_zipIdx_iff_getElem?]
    exact hp
  have h3 := h2 _ hm'
  simp only [hd, Bool.or_eq_true, Bool.and_eq_true, Bool.not_eq_true', beq_iff_eq, beq_eq_false_iff_ne] at h3
  rcases h3 with h3 | ⟨h3, h4⟩
  · exact absurd h3 hij
  · refine ⟨h3, fun ht => ?_⟩
    rcases h4 with h4 | h4
    · rw [List.contains_eq_mem] at h4
      simp [ht] at h4
    · split at h4
      · rename_i hlt; rw [if_pos hlt]; simpa using h4
      · rename_i hlt; rw [if_neg hlt]; simpa using h4

theorem mem_afters {o : Oper} {j : Nat} (h : j ∈ afters o) : ∃ e ∈ o.after, Region.binds .any e = true ∧ e.on = j := by
  unfold afters at h
  obtain ⟨e, he, hj⟩ := List.mem_filterMap.1 h
  split at hj
  · rename_i hb
    exact ⟨e, by simpa using he, hb, Option.some.inj hj⟩
  · cases hj

theorem unl_lt {p q : Nat → Bool} {i : Nat} (hi : p i = true) (hq : q i = false) (hs : ∀ j, q j = true → p j = true) : ∀ l : List Nat, i ∈ l → (l.filter q).length < (l.filter p).length
  | [], h => by cases h
  | j :: l, h => by
    have hle : ∀ l : List Nat, (l.filter q).length ≤ (l.filter p).length := by
      intro l
      induction l with
      | nil => simp
      | cons a l ih =>
        simp only [List.filter_cons]
        cases hqa : q a with
        | true => simp [hs a hqa, ih]
        | false => cases p a <;> simp <;> omega
    simp only [List.filter_cons]
    rcases List.mem_cons.1 h with rfl | h
    · simp [hi, hq]
      have := hle l
      omega
    · have ih := unl_lt hi hq hs l h
      cases hqa : q j with
      | true => simp [hs j hqa, ih]
      | false => cases p j <;> simp <;> omega

def lst (listed : Array Bool) : Nat → Bool := fun j => listed.getD j false
def unl (n : Nat) (listed : Array Bool) : Nat := ((List.range n).filter fun j => !lst listed j).length

theorem lst_set {listed : Array Bool} {i : Nat} (hi : i < listed.size) (j : Nat) : lst (listed.setIfInBounds i true) j = (lst listed j || decide (j = i)) := by
  unfold lst
  by_cases h : j = i
  · subst h; simp [Array.getD, hi]
  · simp only [Array.getD_eq_getD_getElem?, Array.getElem?_setIfInBounds_ne (Ne.symm h), decide_eq_false h, Bool.or_false]

theorem count_from (i : Nat) : ∀ n, i ≤ n → ((List.range n).filter fun j => decide (i ≤ j)).length = n - i
  | 0, h => by simp
  | n + 1, h => by
    rw [List.range_succ, List.filter_append, List.length_append]
    by_cases hn : i ≤ n
    · rw [count_from i n hn]
      simp [hn]
      omega
    · have hi : i = n + 1 := by omega
      subst hi
      have : (List.range n).filter (fun j => decide (n + 1 ≤ j)) = [] := by
        rw [List.filter_eq_nil_iff]
        intro j hj
        have := List.mem_range.1 hj
        simp
        omega
      rw [this]
      simp
theorem sinkFrom_get {ops : List Oper} : ∀ (l : List Oper) (i : Nat), sinkFrom ops i l = true → ∀ (j : Nat) o, l[j]? = some o → sinkR ops (i + j) (afters o) = true
  | [], i, _, j, o, h => by simp at h
  | p :: l, i, h, j, o, ho => by
    simp only [sinkFrom, Bool.and_eq_true] at h
    cases j with
    | zero => simp at ho; subst ho; exact h.1
    | succ j =>
      have := sinkFrom_get l (i + 1) h.2 j o (by simpa using ho)
      rwa [show i + 1 + j = i + (j + 1) by omega] at this
theorem cutAt_le (C : Ctx) : ∀ l : List Oper, cutAt C l ≤ l.length
  | [] => Nat.le_refl _
  | o :: l => by
    unfold cutAt
    split
    · have := cutAt_le C l
      simp
      omega
    · simp
theorem sinkR_sound {ops : List Oper} (L : Nat → Bool) (hcl : ∀ j p, ops[j]? = some p → L j = true → ∀ k ∈ afters p, L k = true) : ∀ (n : Nat) (R : List Nat), sinkR ops n R = true → (∀ k ∈ R, L k = true) → ∀ j, j < n → L j = true
  | 0, _, _, _, j, hj => absurd hj (Nat.not_lt_zero j)
  | n + 1, R, h, hR, j, hj => by
    simp only [sinkR, Bool.and_eq_true] at h
    have hn : L n = true := hR n (by simpa using h.1)
    by_cases hjn : j = n
    · rw [hjn]; exact hn
    · refine sinkR_sound L hcl n _ h.2 ?_ j (by omega)
      intro k hk
      split at hk
      · rename_i p hp
        rcases List.mem_append.1 hk with hk | hk
        · exact hcl n p hp hn k hk
        · exact hR k hk
      · exact hR k hk
theorem draw_any (hM : P.follows .mixedOrders = true) (hG : ∀ w', Below B w0 w' → G w') (hK : CtxOk P C G) {ops : Array Oper} {Q : Exit → Act → World → Prop} (hok : drawOk ops.toList = true) {qs : List Oper} {tmps xs : List AV} {m : Nat}
    (hqs : ∀ (i : Nat) o, qs[i]? = some o ↔ (ops[i]? = some o ∧ i < m)) (hlen : qs.length = m) (hxs : xs.length = m) (hstep : ∀ (i : Nat) o, qs[i]? = some o → ∃ x, xs[i]? = some x ∧ StepOk C P H ops (lay (fun j => decide (j < i)) 0 qs xs tmps) o x)
    (hend : m = ops.size ∧ (∀ a S' pl' w', Ext B S H pl S' H pl' → WRel G B w0 S' H pl' w' → TRel S' H pl' (lay (fun _ => true) 0 qs xs tmps) a → Q .normal a w') ∨
      m < ops.size ∧ (∀ i, m ≤ i → ∀ (L : Nat → Bool) o, ops[i]? = some o → (∀ k ∈ afters o, L k = true) → (∀ j p, ops[j]? = some p → L j = true → ∀ k ∈ afters p, L k = true) → ∀ j, j < i → L j = true) ∧ ∀ a S' pl' w', Ext B S H pl S' H pl' → WRel G B w0 S' H pl' w' → TRel S' H pl' (lay (fun _ => true) 0 qs xs tmps) a → wpList P ops Q (ops.toList.drop m) a w') :
    ∀ (fuel : Nat) (listed : Array Bool) (S' : Sto) (pl' : Pl) (a : Act) (w : World), listed.size = ops.size → unl ops.size listed ≤ fuel → (∀ j o, ops[j]? = some o → lst listed j = true → ∀ k ∈ afters o, lst listed k = true) → (∀ j, m ≤ j → lst listed j = false) →
      Ext B S H pl S' H pl' → WRel G B w0 S' H pl' w → TRel S' H pl' (lay (lst listed) 0 qs xs tmps) a → wpAny P .any ops Q fuel listed a w := by
  have hops : ∀ (j : Nat), ops.toList[j]? = ops[j]? := fun j => by simp
  have hready : ∀ (listed : Array Bool), listed.size = ops.size → (Region.ready .any ops listed = [] → ∀ j, j < ops.size → lst listed j = true) := by
    intro listed hsz hr j
    induction j using Nat.strongRecOn with
    | _ j ih =>
      intro hj
      by_cases hl : lst listed j = true
      · exact hl
      · have hlf : lst listed j = false := by simpa using hl
        have ho : ops[j]? = some ops[j] := Array.getElem?_eq_getElem hj
        have hm : j ∈ Region.ready .any ops listed := by
          rw [mem_ready]
          refine ⟨?_, ops[j], ho, fun e he hb => ?_⟩
          · unfold lst at hlf
            simpa [Array.getD, hsz, hj] using hlf
          · have := (drawOk_inv hok (i := j) (by rw [hops]; exact ho)).1 e he
            exact ih e.on this (by omega)
        rw [hr] at hm
        cases hm
  have hcongr : ∀ (listed : Array Bool) (i : Nat) (o : Oper), ops[i]? = some o → i < m → lst listed i = false → (∀ k ∈ afters o, lst listed k = true) → (∀ j o, ops[j]? = some o → lst listed j = true → ∀ k ∈ afters o, lst listed k = true) →
      ∀ t ∈ reads ops.toList o, (lay (lst listed) 0 qs xs tmps)[t]? = (lay (fun j => decide (j < i)) 0 qs xs tmps)[t]? := by
    intro listed i o ho hi hli haft hcl t ht
    refine lay_congr 0 qs xs tmps tmps (fun j p hp hd => ?_) rfl rfl
    simp only [Nat.zero_add]
    obtain ⟨hpo, hjm⟩ := (hqs j p).1 hp
    by_cases hij : i = j
    · subst hij; simp [hli]
    · have := ((drawOk_inv hok (i := i) (by rw [hops]; exact ho)).2 j p t (by rw [hops]; exact hpo) hd hij).2 ht
      by_cases hlt : j < i
      · rw [if_pos hlt] at this
        rw [haft j this]
        simp [hlt]
      · rw [if_neg hlt] at this
        rw [decide_eq_false hlt]
        cases hlj : lst listed j with
        | false => rfl
        | true =>
          have := hcl j p hpo hlj i this
          rw [hli] at this
          cases this
  have hev : ∀ (listed : Array Bool) (i : Nat) (o : Oper), (∀ t ∈ reads ops.toList o, (lay (lst listed) 0 qs xs tmps)[t]? = (lay (fun j => decide (j < i)) 0 qs xs tmps)[t]?) → ∀ y ∈ o.op.operands, evA (lay (lst listed) 0 qs xs tmps) y = evA (lay (fun j => decide (j < i)) 0 qs xs tmps) y := by
    intro listed i o h y hy
    cases y with
    | tmp t =>
      have : t ∈ reads ops.toList o := by
        unfold reads opTmps
        refine List.mem_append.2 (.inl (List.mem_filterMap.2 ⟨.tmp t, by simpa using hy, rfl⟩))
      simp only [evA, List.getD, h t this]
    | _ => rfl
  have hwant : ∀ (listed : Array Bool) (i : Nat) (o : Oper), (∀ t ∈ reads ops.toList o, (lay (lst listed) 0 qs xs tmps)[t]? = (lay (fun j => decide (j < i)) 0 qs xs tmps)[t]?) → wantA ops (lay (lst listed) 0 qs xs tmps) o = wantA ops (lay (fun j => decide (j < i)) 0 qs xs tmps) o := by
    intro listed i o h
    unfold wantA
    cases hg : o.guard with
    | none => rfl
    | some jb =>
      obtain ⟨j, b⟩ := jb
      simp only
      cases hp : ops[j]? with
      | none => rfl
      | some p =>
        simp only [Option.bind_some]
        cases hd : p.dst with
        | none => rfl
        | some d =>
          have : d ∈ reads ops.toList o := by
            unfold reads
            refine List.mem_append.2 (.inr ?_)
            rw [hg]
            simp only [hops, hp, hd]
            simp
          simp only [List.getD, h d this]
  have hfull : ∀ (listed : Array Bool), (∀ j, j < m → lst listed j = true) → lay (lst listed) 0 qs xs tmps = lay (fun _ => true) 0 qs xs tmps := fun listed h => by
    apply List.ext_getElem?
    intro t
    refine lay_congr 0 qs xs tmps tmps (fun j p hp _ => ?_) rfl rfl
    rw [Nat.zero_add]
    exact h j ((hqs j p).1 hp).2
  have hnil : ∀ (listed : Array Bool), listed.size = ops.size → (∀ j, j < ops.size → lst listed j = true) → Region.ready .any ops listed = [] := by
    intro listed hsz hall
    rw [List.eq_nil_iff_forall_not_mem]
    intro j hj
    obtain ⟨h0, o, ho, _⟩ := mem_ready.1 hj
    have hlt : j < ops.size := (Array.getElem?_eq_some_iff.1 ho).1
    have := hall j hlt
    unfold lst at this
    simp [Array.getD, hsz, hlt] at this h0
    rw [this] at h0
    cases h0
  have tail : ∀ (k i : Nat) (listed : Array Bool) (a : Act) (w : World), i + k = ops.size → m ≤ i → listed.size = ops.size → (∀ j, lst listed j = decide (j < i)) →
      (∀ i, m ≤ i → ∀ (L : Nat → Bool) o, ops[i]? = some o → (∀ k ∈ afters o, L k = true) → (∀ j p, ops[j]? = some p → L j = true → ∀ k ∈ afters p, L k = true) → ∀ j, j < i → L j = true) →
      wpList P ops Q (ops.toList.drop i) a w → ∀ fuel, k ≤ fuel → wpAny P .any ops Q fuel listed a w := by
    intro k
    induction k with
    | zero =>
      intro i listed a w hik hmi hsz heq hsink hl fuel _
      rw [List.drop_eq_nil_of_le (by simp; omega)] at hl
      exact wpAny_done (hnil listed hsz fun j hj => by rw [heq]; exact decide_eq_true (by omega)) hl fuel
    | succ k ihk =>
      intro i listed a w hik hmi hsz heq hsink hl fuel hf
      match fuel, hf with
      | fuel + 1, hf =>
        refine ⟨fun hr => ?_, fun q hq => ?_⟩
        · have := hready listed hsz hr i (by omega)
          rw [heq, decide_eq_false (by omega)] at this
          cases this
        · obtain ⟨h0, o, ho, haf⟩ := mem_ready.1 hq
          have hlt : q < ops.size := (Array.getElem?_eq_some_iff.1 ho).1
          have hlq : lst listed q = false := by unfold lst; simpa [Array.getD, hsz, hlt] using h0
          have haft : ∀ k ∈ afters o, lst listed k = true := fun k hk => by
            obtain ⟨e, he, hb, rfl⟩ := mem_afters hk
            exact haf e he hb
          have hqi : ¬ q < i := fun h => by rw [heq, decide_eq_true h] at hlq; cases hlq
          have hcl : ∀ j p, ops[j]? = some p → lst listed j = true → ∀ k ∈ afters p, lst listed k = true := fun j p hp hj k hk => by
            rw [heq] at hj ⊢
            obtain ⟨e, he, _, rfl⟩ := mem_afters hk
            have h1 := (drawOk_inv hok (i := j) (by rw [hops]; exact hp)).1 e he
            have h2 : j < i := of_decide_eq_true hj
            exact decide_eq_true (by omega)
          have hqe : q = i := by
            by_cases h : i < q
            · have := hsink q (by omega) _ o ho haft hcl i h
              rw [heq, decide_eq_false (Nat.lt_irrefl i)] at this
              cases this
            · omega
          subst hqe
          have hd : ops.toList.drop q = o :: ops.toList.drop (q + 1) := by
            have hq' : q < ops.toList.length := by simpa using hlt
            rw [List.drop_eq_getElem_cons hq']
            have : ops.toList[q]? = some o := by rw [hops]; exact ho
            rw [List.getElem?_eq_getElem hq'] at this
            rw [Option.some.inj this]
          have hnext : ∀ a w, wpList P ops Q (ops.toList.drop (q + 1)) a w → wpAny P .any ops Q fuel (listed.setIfInBounds q true) a w := fun a w hq' => by
            refine ihk (q + 1) _ a w (by omega) (by omega) (by simpa using hsz) (fun j => ?_) hsink hq' fuel (by omega)
            rw [lst_set (by omega), heq]
            by_cases h1 : j < q
            · simp [h1, Nat.lt_succ_of_lt h1]
            · by_cases h2 : j = q
              · simp [h2]
              · simp [h1, h2]; omega
          unfold wpOp
          rw [ho]
          rw [hd] at hl
          unfold wpList at hl
          simp only
          split at hl
          · rename_i hw
            rw [if_pos hw]
            exact hl.imp (Oper.wp_mono fun a w h => hnext a w h) id
          · rename_i hw
            rw [if_neg hw]
            exact hnext _ _ hl
  have hQ : ∀ (listed : Array Bool) (S' : Sto) (pl' : Pl) (a : Act) (w : World), (∀ j, j < ops.size → lst listed j = true) → (∀ j, m ≤ j → lst listed j = false) → Ext B S H pl S' H pl' → WRel G B w0 S' H pl' w → TRel S' H pl' (lay (lst listed) 0 qs xs tmps) a → Q .normal a w := by
    intro listed S' pl' a w hall hbig hE hW hT
    rcases hend with ⟨hm, he⟩ | ⟨hm, _, _⟩
    · rw [hfull listed fun j hj => hall j (by omega)] at hT
      exact he a S' pl' w hE hW hT
    · have h1 := hall m (by omega)
      have h2 := hbig m (Nat.le_refl _)
      rw [h1] at h2
      cases h2
  intro fuel
  induction fuel with
  | zero =>
    intro listed S' pl' a w hsz hun hcl hbig hE hW hT
    have hall : ∀ j, j < ops.size → lst listed j = true := by
      intro j hj
      have h0 : ((List.range ops.size).filter fun j => !lst listed j) = [] := List.eq_nil_of_length_eq_zero (by unfold unl at hun; omega)
      have := List.filter_eq_nil_iff.1 h0 j (List.mem_range.2 hj)
      simpa using this
    exact ⟨hnil listed hsz hall, hQ listed S' pl' a w hall hbig hE hW hT⟩
  | succ fuel ih =>
    intro listed S' pl' a w hsz hun hcl hbig hE hW hT
    refine ⟨fun hr => hQ listed S' pl' a w (hready listed hsz hr) hbig hE hW hT, fun i hi => ?_⟩
    obtain ⟨h0, o, ho, haf⟩ := mem_ready.1 hi
    have hlt : i < ops.size := (Array.getElem?_eq_some_iff.1 ho).1
    have hli : lst listed i = false := by unfold lst; simpa [Array.getD, hsz, hlt] using h0
    have haft : ∀ k ∈ afters o, lst listed k = true := fun k hk => by
      obtain ⟨e, he, hb, rfl⟩ := mem_afters hk
      exact haf e he hb
    have hset := lst_set (listed := listed) (i := i) (by omega)
    by_cases him : i < m
    · have hc := hcongr listed i o ho him hli haft hcl
      obtain ⟨x, hx, hst⟩ := hstep i o ((hqs i o).2 ⟨ho, him⟩)
      have hun' : unl ops.size (listed.setIfInBounds i true) ≤ fuel := by
        have := unl_lt (p := fun j => !lst listed j) (q := fun j => !lst (listed.setIfInBounds i true) j) (i := i) (by simp [hli]) (by simp [hset]) (fun j hj => by simp [hset] at hj; simp [hj.1]) (List.range ops.size) (List.mem_range.2 hlt)
        unfold unl at hun ⊢
        omega
      have hcl' : ∀ j p, ops[j]? = some p → lst (listed.setIfInBounds i true) j = true → ∀ k ∈ afters p, lst (listed.setIfInBounds i true) k = true := fun j p hp hj k hk => by
        rw [hset] at hj ⊢
        by_cases hji : j = i
        · subst hji
          rw [ho] at hp
          obtain rfl := Option.some.inj hp
          simp [haft k hk]
        · simp only [decide_eq_false hji, Bool.or_false] at hj
          simp [hcl j p hp hj k hk]
      have hbig' : ∀ j, m ≤ j → lst (listed.setIfInBounds i true) j = false := fun j hj => by
        rw [hset, hbig j hj]
        simp
        omega
      have hlay : lay (lst (listed.setIfInBounds i true)) 0 qs xs tmps = put (lay (lst listed) 0 qs xs tmps) o.dst x := by
        apply List.ext_getElem?
        intro t
        by_cases hd : o.dst = some t
        · by_cases htl : t < tmps.length
          · rw [lay_at 0 qs xs tmps i o x ((hqs i o).2 ⟨ho, him⟩) hx hd (by rw [Nat.zero_add, hset]; simp) (fun j p hp hpd => ?_) htl, hd]
            · simp [put, lay_length, htl]
            · by_cases hij : i = j
              · exact hij.symm
              · exact absurd hd ((drawOk_inv hok (i := i) (by rw [hops]; exact ho)).2 j p t (by rw [hops]; exact ((hqs j p).1 hp).1) hpd hij).1
          · rw [List.getElem?_eq_none (by rw [lay_length]; omega), List.getElem?_eq_none (by rw [put_length, lay_length]; omega)]
        · rw [put_ne hd]
          refine lay_congr 0 qs xs tmps tmps (fun j p hp hpd => ?_) rfl rfl
          rw [Nat.zero_add, hset]
          by_cases hji : j = i
          · subst hji
            rw [((hqs j p).1 hp).1] at ho
            obtain rfl := Option.some.inj ho
            exact absurd hpd hd
          · simp [hji]
      unfold wpOp
      rw [ho]
      simp only
      rcases hst with ⟨hw, hx'⟩ | ⟨hw, rfl⟩
      · rw [← hwant listed i o hc] at hw
        rw [if_pos (wantA_sound hT hw)]
        refine .inl (evOpQ_sound hG hK hT hW (by rw [evOpQ_congr (hev listed i o hc)]; exact hx') _ _ fun u S2 pl2 w2 hE2 hW2 hR => ?_)
        exact ih _ S2 pl2 _ w2 (by simpa using hsz) hun' hcl' hbig' (hE.trans hE2) hW2 (by rw [hlay]; exact (hT.mono hE2).put o.dst hR)
      · rw [← hwant listed i o hc] at hw
        rw [if_neg (by rw [wantA_sound hT hw]; decide)]
        exact ih _ S' pl' _ w (by simpa using hsz) hun' hcl' hbig' hE hW (by rw [hlay]; exact hT.put o.dst (.val _ _ (.v _)))
    · rcases hend with ⟨hm, _⟩ | ⟨hm, hsink, hlast⟩
      · omega
      · have hall' : ∀ j, j < i → lst listed j = true := hsink i (by omega) _ o ho haft hcl
        have him' : i = m := by
          by_cases h : m < i
          · have := hall' m h
            rw [hbig m (Nat.le_refl _)] at this
            cases this
          · omega
        subst him'
        rw [hfull listed hall'] at hT
        have hl := hlast a S' pl' w hE hW hT
        have heq : ∀ j, lst listed j = decide (j < i) := fun j => by
          by_cases hj : j < i
          · rw [hall' j hj, decide_eq_true hj]
          · rw [hbig j (by omega), decide_eq_false hj]
        exact (tail (ops.size - i) i listed a w (by omega) (Nat.le_refl _) hsz heq hsink hl (fuel + 1) (by
          have : unl ops.size listed = ops.size - i := by
            unfold unl
            rw [show (fun j => !lst listed j) = fun j => decide (i ≤ j) from funext fun j => by rw [heq]; by_cases hj : j < i <;> simp [hj] <;> omega]
            exact count_from i ops.size (by omega)
          omega)).2 i hi

theorem drew_W (h : WRel G B w0 S H pl w) (hG : ∀ w', Below B w0 w' → G w') : WRel G B w0 S H pl { w with drawn := w.drawn + 1 } :=
  ⟨⟨h.h.var, h.h.grow, h.h.apart, h.h.sep⟩, h.imm, ⟨h.below.os, h.below.tape, h.below.output, h.below.size, h.below.block⟩, h.base, hG _ ⟨h.below.os, h.below.tape, h.below.output, h.below.size, h.below.block⟩⟩

theorem evDrawOld_sound (hM : P.follows .mixedOrders = true) (hG : ∀ w', Below B w0 w' → G w') (hK : CtxOk P C G) {call : Nat → List AV → List Blk → Option (AV × List Blk)} (hC : CallOk P C G B w0 call) {id : Nat} {ops : Array Oper} {Q : Exit → Act → World → Prop} {s s' : St} {a : Act} (hold : oldOk C ops.toList = true)
    (e : (match evQs C P s.H ops ops.toList s.tmps with
      | some (_, t) => some ⟨t, s.H, s.base⟩
      | none => match evQs C P s.H ops (ops.toList.take (cutAt C ops.toList)) s.tmps with
        | some (_, t) => evOps C P call ops (ops.toList.drop (cutAt C ops.toList)) ⟨t, s.H, s.base⟩
        | none => none) = some s') (ht : TRel S s.H pl s.tmps a) (h : WRel G B w0 S s.H pl w) (k : Post P G B w0 S s.H pl s' (Q .normal)) : (Code.region id ops true).wp P Q a w := by
    have hok : drawOk ops.toList = true := by unfold oldOk at hold; rw [Bool.and_eq_true] at hold; exact hold.1
    have hskn : ¬ cutAt C ops.toList = ops.size → sinkOk C ops.toList = true := fun hne => by
      unfold oldOk at hold
      rw [Bool.and_eq_true, Bool.or_eq_true] at hold
      rcases hold.2 with h | h
      · have := cutAt_le C ops.toList
        rw [List.isEmpty_iff, List.drop_eq_nil_iff] at h
        simp at h this
        omega
      · exact h
    refine wp_region_any hM ?_
    have hun : unl ops.size (Array.replicate ops.size false) ≤ ops.size := by
      unfold unl
      exact Nat.le_trans (List.length_filter_le _ _) (by simp)
    have hlf : ∀ j, lst (Array.replicate ops.size false) j = false := fun j => by
      unfold lst
      by_cases hj : j < ops.size <;> simp [hj]
    have hlay0 : ∀ (qs : List Oper) (xs : List AV), lay (lst (Array.replicate ops.size false)) 0 qs xs s.tmps = s.tmps := by
      have : lst (Array.replicate ops.size false) = fun _ => false := funext hlf
      rw [this]
      have hnone : ∀ (k : Nat) (os : List Oper) (xs tmps : List AV), lay (fun _ => false) k os xs tmps = tmps := by
        intro k os
        induction os generalizing k with
        | nil => intro xs tmps; rfl
        | cons o os ih => intro xs tmps; cases xs with
          | nil => rfl
          | cons x xs => rw [lay]; simp [ih]
      exact fun qs xs => hnone 0 qs xs s.tmps
    split at e
    · rename_i xs t hq
      obtain rfl := Option.some.inj e
      obtain ⟨h1, h2, h3⟩ := evQs_inv _ _ _ _ hq
      refine draw_any hM hG hK hok (S := S) (H := s.H) (pl := pl) (qs := ops.toList) (tmps := s.tmps) (xs := xs) (m := ops.size) (fun i o => ⟨fun hh => ?_, fun hh => by simpa using hh.1⟩) (by simp) (by simp [h1]) h3 (.inl ⟨rfl, fun a S2 pl2 w2 hE hW hT => ?_⟩) _ _ S pl a _ (by simp) hun (fun j o _ hj => by rw [hlf] at hj; cases hj) (fun j _ => hlf j) (Ext.refl _ _ _) (drew_W h hG) (by rw [hlay0]; exact ht)
      · have hh' : ops[i]? = some o := by simpa using hh
        exact ⟨hh', (Array.getElem?_eq_some_iff.1 hh').1⟩
      · rw [← h2] at hT
        exact k a S2 pl2 w2 hE hW hT
    · split at e
      · rename_i xs t hq
        obtain ⟨h1, h2, h3⟩ := evQs_inv _ _ _ _ hq
        have hcl := cutAt_le C ops.toList
        have hcl : cutAt C ops.toList ≤ ops.size := by simpa using hcl
        have hlast : ∀ a S2 pl2 w2, Ext B S s.H pl S2 s.H pl2 → WRel G B w0 S2 s.H pl2 w2 → TRel S2 s.H pl2 (lay (fun _ => true) 0 (ops.toList.take (cutAt C ops.toList)) xs s.tmps) a → wpList P ops Q (ops.toList.drop (cutAt C ops.toList)) a w2 := fun a S2 pl2 w2 hE hW hT => by
          rw [← h2] at hT
          exact evOps_sound hG hK hC _ ⟨t, s.H, s.base⟩ s' S2 pl2 a w2 e hT hW fun a3 S3 pl3 w3 hE3 hW3 hT3 => k a3 S3 pl3 w3 (hE.trans hE3) hW3 hT3
        have hqs : ∀ (i : Nat) o, (ops.toList.take (cutAt C ops.toList))[i]? = some o ↔ (ops[i]? = some o ∧ i < cutAt C ops.toList) := fun i o => by
          rw [List.getElem?_take]
          by_cases hi : i < cutAt C ops.toList
          · rw [if_pos hi]; simp [hi]
          · rw [if_neg hi]; exact ⟨(fun hh => by cases hh), (fun hh => absurd hh.2 hi)⟩
        have hend : cutAt C ops.toList = ops.size ∧ (∀ a S' pl' w', Ext B S s.H pl S' s.H pl' → WRel G B w0 S' s.H pl' w' → TRel S' s.H pl' (lay (fun _ => true) 0 (ops.toList.take (cutAt C ops.toList)) xs s.tmps) a → Q .normal a w') ∨
            cutAt C ops.toList < ops.size ∧ (∀ i, cutAt C ops.toList ≤ i → ∀ (L : Nat → Bool) o, ops[i]? = some o → (∀ k ∈ afters o, L k = true) → (∀ j p, ops[j]? = some p → L j = true → ∀ k ∈ afters p, L k = true) → ∀ j, j < i → L j = true) ∧ ∀ a S' pl' w', Ext B S s.H pl S' s.H pl' → WRel G B w0 S' s.H pl' w' → TRel S' s.H pl' (lay (fun _ => true) 0 (ops.toList.take (cutAt C ops.toList)) xs s.tmps) a → wpList P ops Q (ops.toList.drop (cutAt C ops.toList)) a w' := by
          by_cases hfull : cutAt C ops.toList = ops.size
          · refine .inl ⟨hfull, fun a S2 pl2 w2 hE hW hT => ?_⟩
            have := hlast a S2 pl2 w2 hE hW hT
            rwa [List.drop_eq_nil_of_le (by simp; omega)] at this
          · refine .inr ⟨by omega, fun i hi L o ho hL hclo => ?_, hlast⟩
            have hsk := sinkFrom_get _ _ (hskn hfull) (i - cutAt C ops.toList) o (by rw [List.getElem?_drop, show cutAt C ops.toList + (i - cutAt C ops.toList) = i by omega]; simpa using ho)
            rw [show cutAt C ops.toList + (i - cutAt C ops.toList) = i by omega] at hsk
            exact sinkR_sound L (fun j p hp => hclo j p (by simpa using hp)) _ _ hsk hL
        exact draw_any hM hG hK hok (S := S) (H := s.H) (pl := pl) (qs := ops.toList.take (cutAt C ops.toList)) (tmps := s.tmps) (xs := xs) (m := cutAt C ops.toList) hqs (by simp; omega) (by rw [h1]; simp; omega) h3 hend _ _ S pl a _ (by simp) hun (fun j o _ hj => by rw [hlf] at hj; cases hj) (fun j _ => hlf j) (Ext.refl _ _ _) (drew_W h hG) (by rw [hlay0]; exact ht)
      · cases e
end
end Go.Proofs.YtalkodandfjkmaaDoor.Av

/- Drawn regions with two new variables side by side and a tail that waits for all: in whatever order the two are made. -/
set_option linter.unusedVariables false
set_option linter.unusedSimpArgs false
namespace Go.Proofs.YtalkodandfjkmaaDoor.Av
open Go Go.RowKit
section
variable {P : Program} {C : Ctx} {S : Sto} {H : List Blk} {pl : Pl} {G : World → Prop} {B : Nat} {w0 w : World}

mutual
theorem rep_hb : (x : AV) → ∀ {u : Value}, Rep S H pl x u → AV.hb H.length x = true
  | .any, u, r => rfl
  | .v _, u, r => rfl
  | .lst _ _ _ _, u, r => rfl
  | .z _ _, u, r => rfl
  | .ept _, u, r => rfl
  | .own id ver, u, r => by
    cases r with
    | val _ _ r => cases r
    | own _ _ _ hi h1 k => simp [AV.hb, hi]
  | .gpt id ver i off, u, r => by
    cases r with
    | val _ _ r => cases r
    | gpt _ _ _ _ _ hi h1 k => simp [AV.hb, hi]
  | .ptr id off, u, r => by
    cases r with
    | val _ _ r => cases r
    | ptr _ _ _ hi h1 k => simp [AV.hb, hi]
  | .agg cs, u, r => by
    obtain ⟨us, rfl, k⟩ := r.agg_inv
    simpa [AV.hb] using reps_hb cs k
  | .tup cs, u, r => by
    obtain ⟨us, rfl, k⟩ := r.tup_inv
    simpa [AV.hb] using reps_hb cs k
  | .fn f cs, u, r => by
    obtain ⟨us, rfl, k⟩ := r.fn_inv
    simpa [AV.hb] using reps_hb cs k
  | .ifc t x, u, r => by
    obtain ⟨v, rfl, k⟩ := r.ifc_inv
    simpa [AV.hb] using rep_hb x k
theorem reps_hb : (cs : List AV) → ∀ {us : List Value}, Cs (Rep S H pl) cs us → AV.hbs H.length cs = true
  | [], us, _ => rfl
  | x :: cs, us, k => by
    obtain ⟨u, us', rfl, hx, kc⟩ := k.tail
    simp [AV.hbs, rep_hb x hx, reps_hb cs kc]
end
mutual
theorem low_rep {E : List Blk} : (x : AV) → ∀ {u : Value}, AV.hb H.length x = true → Rep S (H ++ E) pl x u → Rep S H pl x u
  | .any, u, _, r => .val _ _ (.any u)
  | .v x, u, _, r => by rw [r.v_inv]; exact .val _ _ (.v x)
  | .lst _ _ _ _, u, _, r => by cases r; exact .val _ _ (by assumption)
  | .z _ _, u, _, r => by cases r; exact .val _ _ (by assumption)
  | .ept _, u, _, r => by cases r; exact .val _ _ (by assumption)
  | .own id ver, u, h, r => by
    have hid : id < H.length := by simpa [AV.hb] using h
    cases r with
    | val _ _ r => cases r
    | own _ _ _ hi h1 k => exact .own _ _ _ hid h1 fun e sz v bv es q => k e sz v bv es (by rwa [List.getElem?_append_left hid])
  | .gpt id ver i off, u, h, r => by
    have hid : id < H.length := by simpa [AV.hb] using h
    cases r with
    | val _ _ r => cases r
    | gpt _ _ _ _ _ hi h1 k => exact .gpt _ _ _ _ _ hid h1 fun e sz v bv es q => k e sz v bv es (by rwa [List.getElem?_append_left hid])
  | .ptr id off, u, h, r => by
    have hid : id < H.length := by simpa [AV.hb] using h
    cases r with
    | val _ _ r => cases r
    | ptr _ _ _ hi h1 k => exact .ptr _ _ _ hid h1 fun cs q => k cs (by rwa [List.getElem?_append_left hid])
  | .agg cs, u, h, r => by
    obtain ⟨us, rfl, k⟩ := r.agg_inv
    have := lows_rep cs (by simpa [AV.hb] using h) k
    exact .agg cs us this.1 this.2
  | .tup cs, u, h, r => by
    obtain ⟨us, rfl, k⟩ := r.tup_inv
    have := lows_rep cs (by simpa [AV.hb] using h) k
    exact .tup cs us this.1 this.2
  | .fn f cs, u, h, r => by
    obtain ⟨us, rfl, k⟩ := r.fn_inv
    have := lows_rep cs (by simpa [AV.hb] using h) k
    exact .fn f cs us this.1 this.2
  | .ifc t x, u, h, r => by
    obtain ⟨v, rfl, k⟩ := r.ifc_inv
    exact .ifc t x v (low_rep x (by simpa [AV.hb] using h) k)
theorem lows_rep {E : List Blk} : (cs : List AV) → ∀ {us : List Value}, AV.hbs H.length cs = true → Cs (Rep S (H ++ E) pl) cs us → Cs (Rep S H pl) cs us
  | [], us, _, k => by rw [k.nil_inv]; exact Cs.nil
  | x :: cs, us, h, k => by
    obtain ⟨u, us', rfl, hx, kc⟩ := k.tail
    simp [AV.hbs] at h
    exact Cs.cons (low_rep x h.1 hx) (lows_rep cs h.2 kc)
end
theorem hbs_all {n : Nat} : ∀ {cs : List AV}, (∀ x ∈ cs, AV.hb n x = true) → AV.hbs n cs = true
  | [], _ => rfl
  | y :: cs, h => by
    rw [AV.hbs, h y List.mem_cons_self, hbs_all fun x hx => h x (List.mem_cons_of_mem _ hx)]
    rfl
theorem hbs_in {n : Nat} : ∀ {cs : List AV}, AV.hbs n cs = true → ∀ x ∈ cs, AV.hb n x = true
  | [], _, x, h => by cases h
  | y :: cs, h, x, hx => by
    simp [AV.hbs] at h
    rcases List.mem_cons.1 hx with rfl | hx
    · exact h.1
    · exact hbs_in h.2 x hx

/-- Blocks without handles from their number on. -/
def LowH (H : List Blk) : Prop := (∀ (k : Nat) cs, H[k]? = some (.var cs) → AV.hbs H.length cs = true) ∧ ∀ (k : Nat) e sz v bv es, H[k]? = some (.grow e sz v bv es) → AV.hbs H.length es.flatten = true
theorem low_of (h : HRel B S H pl w) : LowH H := by
  refine ⟨fun k cs e => ?_, fun k e sz v bv es q => ?_⟩
  · obtain ⟨b, c, us, t, _, _, _, hc, _⟩ := h.var k cs e
    exact reps_hb cs hc
  · obtain ⟨_, _, _, _, xs, _, hc, _⟩ := h.grow k e sz v bv es q
    exact reps_hb _ hc
/-- The last two places changed. -/
def swp (n : Nat) (pl : Pl) : Pl := fun k => if k = n then pl (n + 1) else if k = n + 1 then pl n else pl k
def sw (n k : Nat) : Nat := if k = n then n + 1 else if k = n + 1 then n else k
theorem sw_inj {n j k : Nat} (h : sw n j = sw n k) : j = k := by
  unfold sw at h
  split at h <;> split at h <;> (try split at h) <;> (try split at h) <;> omega
theorem swp_eq (n : Nat) (pl : Pl) (k : Nat) : swp n pl k = pl (sw n k) := by
  unfold swp sw
  by_cases h : k = n
  · simp [h]
  · by_cases h2 : k = n + 1
    · simp [h2]
    · simp [h, h2]
theorem two_get {x y z : Blk} {k : Nat} (h : (H ++ [x, y])[k]? = some z) : (k < H.length ∧ H[k]? = some z) ∨ (k = H.length ∧ z = x) ∨ (k = H.length + 1 ∧ z = y) := by
  by_cases hk : k < H.length
  · rw [List.getElem?_append_left hk] at h
    exact .inl ⟨hk, h⟩
  · rw [List.getElem?_append_right (by omega)] at h
    obtain ⟨j, rfl⟩ : ∃ j, k = H.length + j := ⟨k - H.length, by omega⟩
    rw [Nat.add_sub_cancel_left] at h
    match j with
    | 0 => simp at h; exact .inr (.inl ⟨rfl, h.symm⟩)
    | 1 => simp at h; exact .inr (.inr ⟨rfl, h.symm⟩)
    | j + 2 => simp at h
theorem two_sw {x y z : Blk} {k : Nat} (h : (H ++ [x, y])[k]? = some z) : (H ++ [y, x])[sw H.length k]? = some z := by
  rcases two_get h with ⟨hk, e⟩ | ⟨rfl, rfl⟩ | ⟨rfl, rfl⟩
  · unfold sw
    rw [if_neg (by omega), if_neg (by omega), List.getElem?_append_left hk]
    exact e
  · unfold sw
    rw [if_pos rfl, List.getElem?_append_right (by omega)]
    simp
  · unfold sw
    rw [if_neg (by omega), if_pos rfl, List.getElem?_append_right (by omega)]
    simp
theorem low_ext {x y : Blk} : Ext 0 S H pl S (H ++ [x, y]) (swp H.length pl) :=
  ⟨fun a u e => .inl e, S.le_refl, by simp, fun k cs hk e => ⟨cs, by rwa [List.getElem?_append_left hk] at e, by unfold swp; rw [if_neg (by omega), if_neg (by omega)]⟩,
   fun k e sz ver bv es hk q => ⟨e, ver, bv, es, by rwa [List.getElem?_append_left hk] at q, Nat.le_refl _, fun _ => ⟨rfl, by unfold swp; rw [if_neg (by omega), if_neg (by omega)]⟩⟩⟩
theorem conv {E : List Blk} {x1 y1 : Blk} {x : AV} {u : Value} (hb : AV.hb H.length x = true) (r : Rep S (H ++ E) pl x u) : Rep S (H ++ [x1, y1]) (swp H.length pl) x u := (low_rep x hb r).mono low_ext
theorem convs {E : List Blk} {x1 y1 : Blk} {cs : List AV} {us : List Value} (hb : AV.hbs H.length cs = true) (r : Cs (Rep S (H ++ E) pl) cs us) : Cs (Rep S (H ++ [x1, y1]) (swp H.length pl)) cs us := by
  obtain ⟨h1, h2⟩ := lows_rep cs hb r
  exact ⟨h1, fun j x u hx hu => (h2 j x u hx hu).mono low_ext⟩
theorem swapW2 {c1 c2 : List AV} (hl : LowH H) (h1 : AV.hbs H.length c1 = true) (h2 : AV.hbs H.length c2 = true) (h : WRel G B w0 S (H ++ [.var c2, .var c1]) pl w) : WRel G B w0 S (H ++ [.var c1, .var c2]) (swp H.length pl) w := by
  have hlive : ∀ k b, live (H ++ [.var c1, .var c2]) (swp H.length pl) k b → live (H ++ [.var c2, .var c1]) pl (sw H.length k) b := fun k b ⟨⟨x, hx, hl⟩, c, hc⟩ => ⟨⟨x, two_sw hx, hl⟩, c, by rw [← swp_eq H.length pl k]; exact hc⟩
  refine ⟨⟨fun k cs e => ?_, fun k e sz ver bv es q => ?_, fun k k' b a1 a2 => sw_inj (h.h.apart _ _ b (hlive _ _ a1) (hlive _ _ a2)), fun a u e k l => h.h.sep a u e _ (hlive _ _ l)⟩, h.imm, h.below, h.base, h.g⟩
  · obtain ⟨b, c, us, t, hp, hB, hh, hcs, ho⟩ := h.h.var _ cs (two_sw e)
    refine ⟨b, c, us, t, by rw [swp_eq]; exact hp, hB, hh, convs ?_ hcs, ho⟩
    rcases two_get e with ⟨_, e⟩ | ⟨_, e⟩ | ⟨_, e⟩
    · exact hl.1 k cs e
    · cases e; exact h1
    · cases e; exact h2
  · have hk : k < H.length ∧ H[k]? = some (.grow e sz ver bv es) := by
      rcases two_get q with q | ⟨_, q⟩ | ⟨_, q⟩
      · exact q
      · cases q
      · cases q
    obtain ⟨a1, a2, a3, a4, xs, a5, a6, a7⟩ := h.h.grow k e sz ver bv es (by rw [List.getElem?_append_left hk.1]; exact hk.2)
    have hpk : swp H.length pl k = pl k := by unfold swp; rw [if_neg (by omega), if_neg (by omega)]
    rw [hpk]
    exact ⟨a1, a2, a3, a4, xs, a5, convs (hl.2 k e sz ver bv es hk.2) a6, a7⟩
theorem swap_ext {S' : Sto} {x y x' y' : Blk} {pl' : Pl} (h : Ext B S H pl S' (H ++ [x, y]) pl') : Ext B S H pl S' (H ++ [x', y']) (swp H.length pl') :=
  ⟨h.new, h.S, by simp, fun k cs hk e => by
    rw [List.getElem?_append_left hk] at e
    obtain ⟨c0, e0, hp⟩ := h.var k cs hk (by rw [List.getElem?_append_left hk]; exact e)
    exact ⟨c0, e0, by unfold swp; rw [if_neg (by omega), if_neg (by omega)]; exact hp⟩,
   fun k e sz ver bv es hk q => by
    rw [List.getElem?_append_left hk] at q
    obtain ⟨e0, v0, b0, es0, q0, hv, hp⟩ := h.grow k e sz ver bv es hk (by rw [List.getElem?_append_left hk]; exact q)
    exact ⟨e0, v0, b0, es0, q0, hv, fun ev => ⟨(hp ev).1, by unfold swp; rw [if_neg (by omega), if_neg (by omega)]; exact (hp ev).2⟩⟩⟩
theorem put_at {T : List AV} {d : Option Nat} {x : AV} {i : Nat} : (put T d x)[i]? = if d = some i then (if i < T.length then some x else none) else T[i]? := by
  cases d with
  | none => simp [put]
  | some j =>
    simp only [put, List.getElem?_set]
    by_cases h : j = i
    · subst h
      by_cases hl : j < T.length <;> simp [hl]
    · rw [if_neg h, if_neg (by simpa using h)]
theorem put_swap {T : List AV} {d d' : Option Nat} {x y : AV} (h : ∀ t, d = some t → d' ≠ some t) : put (put T d x) d' y = put (put T d' y) d x := by
  apply List.ext_getElem?
  intro i
  simp only [put_at, put_length]
  by_cases h1 : d = some i
  · rw [if_neg (h i h1), if_pos h1, if_pos h1]
  · by_cases h2 : d' = some i
    · rw [if_pos h2, if_neg h1, if_pos h2]
    · rw [if_neg h2, if_neg h1, if_neg h1, if_neg h2]
theorem swap_T {c1 c2 : List AV} {T : List AV} {d1 d2 : Option Nat} {a : Act} (hd : ∀ t, d1 = some t → d2 ≠ some t) (hT : ∀ i x, T[i]? = some x → d1 ≠ some i → d2 ≠ some i → AV.hb H.length x = true)
    (h : TRel S (H ++ [.var c2, .var c1]) pl (put (put T d2 (.ptr H.length 0)) d1 (.ptr (H.length + 1) 0)) a) : TRel S (H ++ [.var c1, .var c2]) (swp H.length pl) (put (put T d1 (.ptr H.length 0)) d2 (.ptr (H.length + 1) 0)) a := by
  obtain ⟨h1, h2, h3⟩ := h
  refine ⟨h1, by rw [h2]; simp [put_length], fun i x u hx hu => ?_⟩
  have h4 := fun y => h3 i y u
  simp only [put_at, put_length] at h4 hx
  by_cases e2 : d2 = some i
  · have e1 : ¬ d1 = some i := fun e => hd i e e2
    rw [if_pos e2] at hx
    rw [if_neg e1, if_pos e2] at h4
    by_cases hl : i < T.length
    · rw [if_pos hl] at hx h4
      obtain rfl := Option.some.inj hx
      have r := h4 _ rfl hu
      cases r with
      | val _ _ r => cases r
      | ptr _ _ _ hi h1' k =>
        refine .ptr _ _ _ (by simp) h1' fun cs q => ?_
        obtain ⟨b, c, hp, hu'⟩ := k c2 (by rw [List.getElem?_append_right (Nat.le_refl _)]; simp)
        exact ⟨b, c, by unfold swp; rw [if_neg (by omega), if_pos rfl]; exact hp, hu'⟩
    · rw [if_neg hl] at hx; cases hx
  · rw [if_neg e2] at hx
    by_cases e1 : d1 = some i
    · rw [if_pos e1] at hx h4
      by_cases hl : i < T.length
      · rw [if_pos hl] at hx h4
        obtain rfl := Option.some.inj hx
        have r := h4 _ rfl hu
        cases r with
        | val _ _ r => cases r
        | ptr _ _ _ hi h1' k =>
          refine .ptr _ _ _ (by simp) h1' fun cs q => ?_
          obtain ⟨b, c, hp, hu'⟩ := k c1 (by rw [List.getElem?_append_right (by omega)]; simp)
          exact ⟨b, c, by unfold swp; rw [if_pos rfl]; exact hp, hu'⟩
      · rw [if_neg hl] at hx; cases hx
    · rw [if_neg e1] at hx h4
      rw [if_neg e2] at h4
      exact conv (hT i x hx e1 e2) (h4 x hx hu)
/-- Memory with the one, the other, both. -/
def mem2 (H : List Blk) (l1 l2 : Bool) (b1 b2 : Blk) : List Blk := match l1, l2 with
  | false, false => H
  | true, false => H ++ [b1]
  | false, true => H ++ [b2]
  | true, true => H ++ [b1, b2]
def tm2 (n : Nat) (l1 l2 : Bool) (d1 d2 : Option Nat) (T : List AV) : List AV := match l1, l2 with
  | false, false => T
  | true, false => put T d1 (.ptr n 0)
  | false, true => put T d2 (.ptr n 0)
  | true, true => put (put T d1 (.ptr n 0)) d2 (.ptr (n + 1) 0)
theorem mem2_app (H : List Blk) (l1 l2 : Bool) (b1 b2 : Blk) : ∃ E, mem2 H l1 l2 b1 b2 = H ++ E := by
  cases l1 <;> cases l2
  · exact ⟨[], (List.append_nil H).symm⟩
  · exact ⟨[b2], rfl⟩
  · exact ⟨[b1], rfl⟩
  · exact ⟨[b1, b2], rfl⟩
theorem tm2_at {n : Nat} {l1 l2 : Bool} {d1 d2 : Option Nat} {T : List AV} {t : Nat} (h1 : l1 = true → d1 ≠ some t) (h2 : l2 = true → d2 ≠ some t) : (tm2 n l1 l2 d1 d2 T)[t]? = T[t]? := by
  cases l1 <;> cases l2
  · rfl
  · exact put_ne (h2 rfl)
  · exact put_ne (h1 rfl)
  · unfold tm2
    simp only []
    rw [put_ne (h2 rfl), put_ne (h1 rfl)]
theorem tm2_put {n : Nat} {l1 l2 : Bool} {d1 d2 d : Option Nat} {T : List AV} {x : AV} (h1 : ∀ t, d = some t → d1 ≠ some t) (h2 : ∀ t, d = some t → d2 ≠ some t) : tm2 n l1 l2 d1 d2 (put T d x) = put (tm2 n l1 l2 d1 d2 T) d x := by
  cases l1 <;> cases l2
  · rfl
  · exact put_swap h2
  · exact put_swap h1
  · unfold tm2
    simp only []
    rw [put_swap h1, put_swap h2]
theorem lay_mem {L : Nat → Bool} {t : Nat} {y : AV} : ∀ (k : Nat) (os : List Oper) (xs T : List AV), (lay L k os xs T)[t]? = some y → T[t]? = some y ∨ ∃ (j : Nat) (o : Oper), os[j]? = some o ∧ xs[j]? = some y ∧ o.dst = some t ∧ t < T.length
  | k, [], xs, T, h => .inl h
  | k, o :: os, [], T, h => .inl h
  | k, o :: os, x :: xs, T, h => by
    rw [lay] at h
    rcases lay_mem (k + 1) os xs _ h with h | ⟨j, p, h1, h2, h3, h4⟩
    · split at h
      · rw [put_at] at h
        split at h
        · rename_i hd
          split at h
          · rename_i hl
            exact .inr ⟨0, o, rfl, by simpa using h, hd, hl⟩
          · cases h
        · exact .inl h
      · exact .inl h
    · refine .inr ⟨j + 1, p, h1, h2, h3, ?_⟩
      split at h4
      · rwa [put_length] at h4
      · exact h4
theorem draw_two (hM : P.follows .mixedOrders = true) (hG : ∀ w', Below B w0 w' → G w') (hK : CtxOk P C G) {call : Nat → List AV → List Blk → Option (AV × List Blk)} (hC : CallOk P C G B w0 call) {ops : Array Oper} {Q : Exit → Act → World → Prop} (hok : drawOk ops.toList = true) {qs : List Oper} {tmps xs : List AV} {m : Nat} {o1 o2 : Oper} {c1 c2 : List AV}
    (hqs : ∀ (i : Nat) o, qs[i]? = some o ↔ (ops[i]? = some o ∧ i < m)) (hxs : xs.length = m) (hstep : ∀ (i : Nat) o, qs[i]? = some o → ∃ x, xs[i]? = some x ∧ StepOk C P H ops (lay (fun j => decide (j < i)) 0 qs xs tmps) o x)
    (ho1 : ops[m]? = some o1) (ho2 : ops[m + 1]? = some o2) (hg1 : o1.guard = none) (hg2 : o2.guard = none) (hr1 : ∀ t, o2.dst = some t → t ∉ reads ops.toList o1) (hr2 : ∀ t, o1.dst = some t → t ∉ reads ops.toList o2)
    (he1 : ∀ (H' : List Blk) (T' : List AV), (∀ y ∈ o1.op.operands, evA T' y = evA (lay (fun _ => true) 0 qs xs tmps) y) → evOp C P call T' H' o1 = some (.ptr H'.length 0, H' ++ [.var c1]))
    (he2 : ∀ (H' : List Blk) (T' : List AV), (∀ y ∈ o2.op.operands, evA T' y = evA (lay (fun _ => true) 0 qs xs tmps) y) → evOp C P call T' H' o2 = some (.ptr H'.length 0, H' ++ [.var c2]))
    (hl : LowH H) (hc1 : AV.hbs H.length c1 = true) (hc2 : AV.hbs H.length c2 = true) (htm : ∀ (t : Nat) y, tmps[t]? = some y → AV.hb H.length y = true) (hxb : ∀ (j : Nat) o x t, qs[j]? = some o → xs[j]? = some x → o.dst = some t → t < tmps.length → AV.hb H.length x = true)
    (hsink : ∀ i, m + 2 ≤ i → ∀ (L : Nat → Bool) o, ops[i]? = some o → (∀ k ∈ afters o, L k = true) → (∀ j p, ops[j]? = some p → L j = true → ∀ k ∈ afters p, L k = true) → ∀ j, j < i → L j = true)
    (hlast : ∀ a S' pl' w', Ext B S H pl S' (H ++ [.var c1, .var c2]) pl' → WRel G B w0 S' (H ++ [.var c1, .var c2]) pl' w' → TRel S' (H ++ [.var c1, .var c2]) pl' (put (put (lay (fun _ => true) 0 qs xs tmps) o1.dst (.ptr H.length 0)) o2.dst (.ptr (H.length + 1) 0)) a → wpList P ops Q (ops.toList.drop (m + 2)) a w') :
    ∀ (fuel : Nat) (listed : Array Bool) (S' : Sto) (pl' : Pl) (a : Act) (w : World), listed.size = ops.size → unl ops.size listed ≤ fuel → (∀ j o, ops[j]? = some o → lst listed j = true → ∀ k ∈ afters o, lst listed k = true) → (∀ j, m + 2 ≤ j → lst listed j = false) →
      Ext B S H pl S' (mem2 H (lst listed m) (lst listed (m + 1)) (.var c1) (.var c2)) pl' → WRel G B w0 S' (mem2 H (lst listed m) (lst listed (m + 1)) (.var c1) (.var c2)) pl' w → TRel S' (mem2 H (lst listed m) (lst listed (m + 1)) (.var c1) (.var c2)) pl' (tm2 H.length (lst listed m) (lst listed (m + 1)) o1.dst o2.dst (lay (lst listed) 0 qs xs tmps)) a → wpAny P .any ops Q fuel listed a w := by
  have hops : ∀ (j : Nat), ops.toList[j]? = ops[j]? := fun j => by simp
  have hready : ∀ (listed : Array Bool), listed.size = ops.size → (Region.ready .any ops listed = [] → ∀ j, j < ops.size → lst listed j = true) := by
    intro listed hsz hr j
    induction j using Nat.strongRecOn with
    | _ j ih =>
      intro hj
      by_cases hl : lst listed j = true
      · exact hl
      · have hlf : lst listed j = false := by simpa using hl
        have ho : ops[j]? = some ops[j] := Array.getElem?_eq_getElem hj
        have hm : j ∈ Region.ready .any ops listed := by
          rw [mem_ready]
          refine ⟨?_, ops[j], ho, fun e he hb => ?_⟩
          · unfold lst at hlf
            simpa [Array.getD, hsz, hj] using hlf
          · have := (drawOk_inv hok (i := j) (by rw [hops]; exact ho)).1 e he
            exact ih e.on this (by omega)
        rw [hr] at hm
        cases hm
  have hd12 : ∀ t, o1.dst = some t → o2.dst ≠ some t := fun t h1 h2 => ((drawOk_inv hok (i := m + 1) (by rw [hops]; exact ho2)).2 m o1 t (by rw [hops]; exact ho1) h1 (by omega)).1 h2
  -- what an operation reads does not hang on what is listed
  have hcongr : ∀ (listed : Array Bool) (i : Nat) (o : Oper), ops[i]? = some o → i < m + 2 → lst listed i = false → (∀ k ∈ afters o, lst listed k = true) → (∀ j o, ops[j]? = some o → lst listed j = true → ∀ k ∈ afters o, lst listed k = true) →
      ∀ t ∈ reads ops.toList o, (lay (lst listed) 0 qs xs tmps)[t]? = (lay (fun j => decide (j < i)) 0 qs xs tmps)[t]? := by
    intro listed i o ho hi hli haft hcl t ht
    refine lay_congr 0 qs xs tmps tmps (fun j p hp hd => ?_) rfl rfl
    simp only [Nat.zero_add]
    obtain ⟨hpo, hjm⟩ := (hqs j p).1 hp
    by_cases hij : i = j
    · subst hij; simp [hli]
    · have := ((drawOk_inv hok (i := i) (by rw [hops]; exact ho)).2 j p t (by rw [hops]; exact hpo) hd hij).2 ht
      by_cases hlt : j < i
      · rw [if_pos hlt] at this
        rw [haft j this]
        simp [hlt]
      · rw [if_neg hlt] at this
        rw [decide_eq_false hlt]
        cases hlj : lst listed j with
        | false => rfl
        | true =>
          have := hcl j p hpo hlj i this
          rw [hli] at this
          cases this
  have hnot : ∀ (listed : Array Bool) (i : Nat) (o : Oper), ops[i]? = some o → i < m → lst listed i = false → (∀ j o, ops[j]? = some o → lst listed j = true → ∀ k ∈ afters o, lst listed k = true) → ∀ t ∈ reads ops.toList o, (lst listed m = true → o1.dst ≠ some t) ∧ (lst listed (m + 1) = true → o2.dst ≠ some t) := by
    intro listed i o ho hi hli hcl t ht
    refine ⟨fun h1 hd => ?_, fun h2 hd => ?_⟩
    · have := ((drawOk_inv hok (i := i) (by rw [hops]; exact ho)).2 m o1 t (by rw [hops]; exact ho1) hd (by omega)).2 ht
      rw [if_neg (by omega)] at this
      have := hcl m o1 ho1 h1 i this
      rw [hli] at this
      cases this
    · have := ((drawOk_inv hok (i := i) (by rw [hops]; exact ho)).2 (m + 1) o2 t (by rw [hops]; exact ho2) hd (by omega)).2 ht
      rw [if_neg (by omega)] at this
      have := hcl (m + 1) o2 ho2 h2 i this
      rw [hli] at this
      cases this
  have hev : ∀ (T1 T2 : List AV) (o : Oper), (∀ t ∈ reads ops.toList o, T1[t]? = T2[t]?) → ∀ y ∈ o.op.operands, evA T1 y = evA T2 y := by
    intro T1 T2 o h y hy
    cases y with
    | tmp t =>
      have : t ∈ reads ops.toList o := by
        unfold reads opTmps
        refine List.mem_append.2 (.inl (List.mem_filterMap.2 ⟨.tmp t, by simpa using hy, rfl⟩))
      simp only [evA, List.getD, h t this]
    | _ => rfl
  have hwant : ∀ (T1 T2 : List AV) (o : Oper), (∀ t ∈ reads ops.toList o, T1[t]? = T2[t]?) → wantA ops T1 o = wantA ops T2 o := by
    intro T1 T2 o h
    unfold wantA
    cases hg : o.guard with
    | none => rfl
    | some jb =>
      obtain ⟨j, b⟩ := jb
      simp only
      cases hp : ops[j]? with
      | none => rfl
      | some p =>
        simp only [Option.bind_some]
        cases hd : p.dst with
        | none => rfl
        | some d =>
          have : d ∈ reads ops.toList o := by
            unfold reads
            refine List.mem_append.2 (.inr ?_)
            rw [hg]
            simp only [hops, hp, hd]
            simp
          simp only [List.getD, h d this]
  have hfull : ∀ (listed : Array Bool), (∀ j, j < m → lst listed j = true) → lay (lst listed) 0 qs xs tmps = lay (fun _ => true) 0 qs xs tmps := fun listed h => by
    apply List.ext_getElem?
    intro t
    refine lay_congr 0 qs xs tmps tmps (fun j p hp _ => ?_) rfl rfl
    rw [Nat.zero_add]
    exact h j ((hqs j p).1 hp).2
  have hcut : ∀ i, m ≤ i → lay (fun j => decide (j < i)) 0 qs xs tmps = lay (fun _ => true) 0 qs xs tmps := fun i hi => by
    apply List.ext_getElem?
    intro t
    refine lay_congr 0 qs xs tmps tmps (fun j p hp _ => ?_) rfl rfl
    rw [Nat.zero_add]
    exact decide_eq_true (by have := ((hqs j p).1 hp).2; omega)
  have hsame : ∀ (L1 L2 : Nat → Bool), (∀ j, j < m → L1 j = L2 j) → lay L1 0 qs xs tmps = lay L2 0 qs xs tmps := fun L1 L2 h => by
    apply List.ext_getElem?
    intro t
    refine lay_congr 0 qs xs tmps tmps (fun j p hp _ => ?_) rfl rfl
    rw [Nat.zero_add]
    exact h j ((hqs j p).1 hp).2
  have hlayl : ∀ (L : Nat → Bool) (i : Nat) x, (lay L 0 qs xs tmps)[i]? = some x → AV.hb H.length x = true := fun L i x hx => by
    rcases lay_mem 0 qs xs tmps hx with h | ⟨j, o, hj, hxj, hd, htl⟩
    · exact htm i x h
    · exact hxb j o x i hj hxj hd htl
  have hnil : ∀ (listed : Array Bool), listed.size = ops.size → (∀ j, j < ops.size → lst listed j = true) → Region.ready .any ops listed = [] := by
    intro listed hsz hall
    rw [List.eq_nil_iff_forall_not_mem]
    intro j hj
    obtain ⟨h0, o, ho, _⟩ := mem_ready.1 hj
    have hlt : j < ops.size := (Array.getElem?_eq_some_iff.1 ho).1
    have := hall j hlt
    unfold lst at this
    simp [Array.getD, hsz, hlt] at this h0
    rw [this] at h0
    cases h0
  have tail : ∀ (k i : Nat) (listed : Array Bool) (a : Act) (w : World), i + k = ops.size → m + 2 ≤ i → listed.size = ops.size → (∀ j, lst listed j = decide (j < i)) →
      (∀ i, m + 2 ≤ i → ∀ (L : Nat → Bool) o, ops[i]? = some o → (∀ k ∈ afters o, L k = true) → (∀ j p, ops[j]? = some p → L j = true → ∀ k ∈ afters p, L k = true) → ∀ j, j < i → L j = true) →
      wpList P ops Q (ops.toList.drop i) a w → ∀ fuel, k ≤ fuel → wpAny P .any ops Q fuel listed a w := by
    intro k
    induction k with
    | zero =>
      intro i listed a w hik hmi hsz heq hsink hl fuel _
      rw [List.drop_eq_nil_of_le (by simp; omega)] at hl
      exact wpAny_done (hnil listed hsz fun j hj => by rw [heq]; exact decide_eq_true (by omega)) hl fuel
    | succ k ihk =>
      intro i listed a w hik hmi hsz heq hsink hl fuel hf
      match fuel, hf with
      | fuel + 1, hf =>
        refine ⟨fun hr => ?_, fun q hq => ?_⟩
        · have := hready listed hsz hr i (by omega)
          rw [heq, decide_eq_false (by omega)] at this
          cases this
        · obtain ⟨h0, o, ho, haf⟩ := mem_ready.1 hq
          have hlt : q < ops.size := (Array.getElem?_eq_some_iff.1 ho).1
          have hlq : lst listed q = false := by unfold lst; simpa [Array.getD, hsz, hlt] using h0
          have haft : ∀ k ∈ afters o, lst listed k = true := fun k hk => by
            obtain ⟨e, he, hb, rfl⟩ := mem_afters hk
            exact haf e he hb
          have hqi : ¬ q < i := fun h => by rw [heq, decide_eq_true h] at hlq; cases hlq
          have hcl : ∀ j p, ops[j]? = some p → lst listed j = true → ∀ k ∈ afters p, lst listed k = true := fun j p hp hj k hk => by
            rw [heq] at hj ⊢
            obtain ⟨e, he, _, rfl⟩ := mem_afters hk
            have h1 := (drawOk_inv hok (i := j) (by rw [hops]; exact hp)).1 e he
            have h2 : j < i := of_decide_eq_true hj
            exact decide_eq_true (by omega)
          have hqe : q = i := by
            by_cases h : i < q
            · have := hsink q (by omega) _ o ho haft hcl i h
              rw [heq, decide_eq_false (Nat.lt_irrefl i)] at this
              cases this
            · omega
          subst hqe
          have hd : ops.toList.drop q = o :: ops.toList.drop (q + 1) := by
            have hq' : q < ops.toList.length := by simpa using hlt
            rw [List.drop_eq_getElem_cons hq']
            have : ops.toList[q]? = some o := by rw [hops]; exact ho
            rw [List.getElem?_eq_getElem hq'] at this
            rw [Option.some.inj this]
          have hnext : ∀ a w, wpList P ops Q (ops.toList.drop (q + 1)) a w → wpAny P .any ops Q fuel (listed.setIfInBounds q true) a w := fun a w hq' => by
            refine ihk (q + 1) _ a w (by omega) (by omega) (by simpa using hsz) (fun j => ?_) hsink hq' fuel (by omega)
            rw [lst_set (by omega), heq]
            by_cases h1 : j < q
            · simp [h1, Nat.lt_succ_of_lt h1]
            · by_cases h2 : j = q
              · simp [h2]
              · simp [h1, h2]; omega
          unfold wpOp
          rw [ho]
          rw [hd] at hl
          unfold wpList at hl
          simp only
          split at hl
          · rename_i hw
            rw [if_pos hw]
            exact hl.imp (Oper.wp_mono fun a w h => hnext a w h) id
          · rename_i hw
            rw [if_neg hw]
            exact hnext _ _ hl
  have hm2 : m + 1 < ops.size := (Array.getElem?_eq_some_iff.1 ho2).1
  have fin : ∀ (fuel : Nat) (listed : Array Bool) (S' : Sto) (pl' : Pl) (a : Act) (w : World), listed.size = ops.size → ops.size - (m + 2) ≤ fuel → (∀ j, j < m + 2 → lst listed j = true) → (∀ j, m + 2 ≤ j → lst listed j = false) →
      Ext B S H pl S' (mem2 H (lst listed m) (lst listed (m + 1)) (.var c1) (.var c2)) pl' → WRel G B w0 S' (mem2 H (lst listed m) (lst listed (m + 1)) (.var c1) (.var c2)) pl' w → TRel S' (mem2 H (lst listed m) (lst listed (m + 1)) (.var c1) (.var c2)) pl' (tm2 H.length (lst listed m) (lst listed (m + 1)) o1.dst o2.dst (lay (lst listed) 0 qs xs tmps)) a → wpAny P .any ops Q fuel listed a w := by
    intro fuel listed S' pl' a w hsz hf hall hbig hE hW hT
    rw [hall m (by omega), hall (m + 1) (by omega)] at hE hW hT
    rw [hfull listed fun j hj => hall j (by omega)] at hT
    exact tail (ops.size - (m + 2)) (m + 2) listed a w (by omega) (Nat.le_refl _) hsz (fun j => by
      by_cases hj : j < m + 2
      · rw [hall j hj, decide_eq_true hj]
      · rw [hbig j (by omega), decide_eq_false hj]) hsink (hlast a S' pl' w hE hW hT) fuel hf
  have hunl : ∀ (listed : Array Bool), (∀ j, j < m + 2 → lst listed j = true) → (∀ j, m + 2 ≤ j → lst listed j = false) → unl ops.size listed = ops.size - (m + 2) := fun listed hall hbig => by
    unfold unl
    rw [show (fun j => !lst listed j) = fun j => decide (m + 2 ≤ j) from funext fun j => by
      by_cases hj : m + 2 ≤ j
      · rw [hbig j hj, decide_eq_true hj]; rfl
      · rw [hall j (by omega), decide_eq_false hj]; rfl]
    exact count_from (m + 2) ops.size (by omega)
  intro fuel
  induction fuel with
  | zero =>
    intro listed S' pl' a w hsz hun hcl hbig hE hW hT
    have hall : ∀ j, j < ops.size → lst listed j = true := by
      intro j hj
      have h0 : ((List.range ops.size).filter fun j => !lst listed j) = [] := List.eq_nil_of_length_eq_zero (by unfold unl at hun; omega)
      have := List.filter_eq_nil_iff.1 h0 j (List.mem_range.2 hj)
      simpa using this
    have hall2 : ∀ j, j < m + 2 → lst listed j = true := fun j hj => hall j (by omega)
    exact fin 0 listed S' pl' a w hsz (by rw [← hunl listed hall2 hbig]; exact hun) hall2 hbig hE hW hT
  | succ fuel ih =>
    intro listed S' pl' a w hsz hun hcl hbig hE hW hT
    by_cases hall2 : ∀ j, j < m + 2 → lst listed j = true
    · exact fin (fuel + 1) listed S' pl' a w hsz (by rw [← hunl listed hall2 hbig]; exact hun) hall2 hbig hE hW hT
    refine ⟨fun hr => absurd (fun j hj => hready listed hsz hr j (by omega)) hall2, fun i hi => ?_⟩
    obtain ⟨h0, o, ho, haf⟩ := mem_ready.1 hi
    have hlt : i < ops.size := (Array.getElem?_eq_some_iff.1 ho).1
    have hli : lst listed i = false := by unfold lst; simpa [Array.getD, hsz, hlt] using h0
    have haft : ∀ k ∈ afters o, lst listed k = true := fun k hk => by
      obtain ⟨e, he, hb, rfl⟩ := mem_afters hk
      exact haf e he hb
    have hi2 : i < m + 2 := by
      by_cases h : i < m + 2
      · exact h
      · exact absurd (fun j hj => hsink i (by omega) _ o ho haft hcl j (by omega)) hall2
    have hset := lst_set (listed := listed) (i := i) (by omega)
    have hun' : unl ops.size (listed.setIfInBounds i true) ≤ fuel := by
      have := unl_lt (p := fun j => !lst listed j) (q := fun j => !lst (listed.setIfInBounds i true) j) (i := i) (by simp [hli]) (by simp [hset]) (fun j hj => by simp [hset] at hj; simp [hj.1]) (List.range ops.size) (List.mem_range.2 hlt)
      unfold unl at hun ⊢
      omega
    have hcl' : ∀ j p, ops[j]? = some p → lst (listed.setIfInBounds i true) j = true → ∀ k ∈ afters p, lst (listed.setIfInBounds i true) k = true := fun j p hp hj k hk => by
      rw [hset] at hj ⊢
      by_cases hji : j = i
      · subst hji
        rw [ho] at hp
        obtain rfl := Option.some.inj hp
        simp [haft k hk]
      · simp only [decide_eq_false hji, Bool.or_false] at hj
        simp [hcl j p hp hj k hk]
    have hbig' : ∀ j, m + 2 ≤ j → lst (listed.setIfInBounds i true) j = false := fun j hj => by
      rw [hset, hbig j hj]
      simp
      omega
    have hsz' : (listed.setIfInBounds i true).size = ops.size := by simpa using hsz
    have hoth : ∀ j, j ≠ i → lst (listed.setIfInBounds i true) j = lst listed j := fun j hj => by rw [hset, decide_eq_false hj, Bool.or_false]
    have hself : lst (listed.setIfInBounds i true) i = true := by rw [hset]; simp
    unfold wpOp
    rw [ho]
    simp only
    by_cases him : i < m
    · have hc : ∀ t ∈ reads ops.toList o, (tm2 H.length (lst listed m) (lst listed (m + 1)) o1.dst o2.dst (lay (lst listed) 0 qs xs tmps))[t]? = (lay (fun j => decide (j < i)) 0 qs xs tmps)[t]? := fun t ht =>
        (tm2_at (hnot listed i o ho him hli hcl t ht).1 (hnot listed i o ho him hli hcl t ht).2).trans (hcongr listed i o ho hi2 hli haft hcl t ht)
      obtain ⟨x, hx, hst⟩ := hstep i o ((hqs i o).2 ⟨ho, him⟩)
      have hlay : lay (lst (listed.setIfInBounds i true)) 0 qs xs tmps = put (lay (lst listed) 0 qs xs tmps) o.dst x := by
        apply List.ext_getElem?
        intro t
        by_cases hd : o.dst = some t
        · by_cases htl : t < tmps.length
          · rw [lay_at 0 qs xs tmps i o x ((hqs i o).2 ⟨ho, him⟩) hx hd (by rw [Nat.zero_add, hset]; simp) (fun j p hp hpd => ?_) htl, hd]
            · simp [put, lay_length, htl]
            · by_cases hij : i = j
              · exact hij.symm
              · exact absurd hd ((drawOk_inv hok (i := i) (by rw [hops]; exact ho)).2 j p t (by rw [hops]; exact ((hqs j p).1 hp).1) hpd hij).1
          · rw [List.getElem?_eq_none (by rw [lay_length]; omega), List.getElem?_eq_none (by rw [put_length, lay_length]; omega)]
        · rw [put_ne hd]
          refine lay_congr 0 qs xs tmps tmps (fun j p hp hpd => ?_) rfl rfl
          rw [Nat.zero_add, hset]
          by_cases hji : j = i
          · subst hji
            rw [((hqs j p).1 hp).1] at ho
            obtain rfl := Option.some.inj ho
            exact absurd hpd hd
          · simp [hji]
      have hdo1 : ∀ t, o.dst = some t → o1.dst ≠ some t := fun t h1 h2 => ((drawOk_inv hok (i := i) (by rw [hops]; exact ho)).2 m o1 t (by rw [hops]; exact ho1) h2 (by omega)).1 h1
      have hdo2 : ∀ t, o.dst = some t → o2.dst ≠ some t := fun t h1 h2 => ((drawOk_inv hok (i := i) (by rw [hops]; exact ho)).2 (m + 1) o2 t (by rw [hops]; exact ho2) h2 (by omega)).1 h1
      rcases hst with ⟨hw, hx'⟩ | ⟨hw, rfl⟩
      · rw [← hwant _ _ o hc] at hw
        rw [if_pos (wantA_sound hT hw)]
        have hq : evOpQ C P (tm2 H.length (lst listed m) (lst listed (m + 1)) o1.dst o2.dst (lay (lst listed) 0 qs xs tmps)) (mem2 H (lst listed m) (lst listed (m + 1)) (.var c1) (.var c2)) o = some x := by
          obtain ⟨E, hE'⟩ := mem2_app H (lst listed m) (lst listed (m + 1)) (.var c1) (.var c2)
          rw [hE', evOpQ_congr (hev _ _ o hc)]
          exact evOpQ_more E hx'
        refine .inl (evOpQ_sound hG hK hT hW hq _ _ fun u S2 pl2 w2 hE2 hW2 hR => ?_)
        refine ih _ S2 pl2 _ w2 hsz' hun' hcl' hbig' ?_ ?_ ?_ <;> rw [hoth m (by omega), hoth (m + 1) (by omega)]
        · exact hE.trans hE2
        · exact hW2
        · rw [hlay, tm2_put hdo1 hdo2]
          exact (hT.mono hE2).put o.dst hR
      · rw [← hwant _ _ o hc] at hw
        rw [if_neg (by rw [wantA_sound hT hw]; decide)]
        refine ih _ S' pl' _ w hsz' hun' hcl' hbig' ?_ ?_ ?_ <;> rw [hoth m (by omega), hoth (m + 1) (by omega)]
        · exact hE
        · exact hW
        · rw [hlay, tm2_put hdo1 hdo2]
          exact hT.put o.dst (.val _ _ (.v _))
    · have hle : lay (lst (listed.setIfInBounds i true)) 0 qs xs tmps = lay (lst listed) 0 qs xs tmps := hsame _ _ fun j hj => hoth j (by omega)
      by_cases hi1 : i = m
      · subst hi1
        rw [ho1] at ho
        obtain rfl := Option.some.inj ho
        rw [hli] at hE hW hT
        have hc : ∀ t ∈ reads ops.toList o1, (tm2 H.length false (lst listed (i + 1)) o1.dst o2.dst (lay (lst listed) 0 qs xs tmps))[t]? = (lay (fun _ => true) 0 qs xs tmps)[t]? := fun t ht =>
          (tm2_at (fun h => by cases h) (fun _ h2 => hr1 t h2 ht)).trans ((hcongr listed i o1 ho1 hi2 hli haft hcl t ht).trans (by rw [hcut i (Nat.le_refl _)]))
        have hw : wantA ops (tm2 H.length false (lst listed (i + 1)) o1.dst o2.dst (lay (lst listed) 0 qs xs tmps)) o1 = some true := by unfold wantA; rw [hg1]
        rw [if_pos (wantA_sound hT hw)]
        refine .inl (evOp_sound hG hK hC hT hW (he1 _ _ (hev _ _ o1 hc)) _ _ fun u S2 pl2 w2 hE2 hW2 hR => ?_)
        cases h2 : lst listed (i + 1) with
        | false =>
          rw [h2] at hE hW hT hE2 hW2 hR
          refine ih _ S2 pl2 _ w2 hsz' hun' hcl' hbig' ?_ ?_ ?_ <;> rw [hself, hoth (i + 1) (by omega), h2]
          · exact hE.trans hE2
          · exact hW2
          · rw [hle]
            exact (hT.mono hE2).put o1.dst hR
        | true =>
          rw [h2] at hE hW hT hE2 hW2 hR
          have hT2 := (hT.mono hE2).put o1.dst hR
          simp only [mem2, tm2, List.append_assoc, List.cons_append, List.nil_append, List.length_append, List.length_cons, List.length_nil, Nat.zero_add] at hE hW hT hE2 hW2 hR hT2
          refine ih _ S2 (swp H.length pl2) _ w2 hsz' hun' hcl' hbig' ?_ ?_ ?_ <;> rw [hself, hoth (i + 1) (by omega), h2]
          · exact swap_ext (hE.trans hE2)
          · exact swapW2 hl hc1 hc2 hW2
          · rw [hle]
            exact swap_T hd12 (fun j x hx _ _ => hlayl _ j x hx) hT2
      · obtain rfl : i = m + 1 := by omega
        rw [ho2] at ho
        obtain rfl := Option.some.inj ho
        rw [hli] at hE hW hT
        have hc : ∀ t ∈ reads ops.toList o2, (tm2 H.length (lst listed m) false o1.dst o2.dst (lay (lst listed) 0 qs xs tmps))[t]? = (lay (fun _ => true) 0 qs xs tmps)[t]? := fun t ht =>
          (tm2_at (fun _ h1 => hr2 t h1 ht) (fun h => by cases h)).trans ((hcongr listed (m + 1) o2 ho2 hi2 hli haft hcl t ht).trans (by rw [hcut (m + 1) (Nat.le_succ _)]))
        have hw : wantA ops (tm2 H.length (lst listed m) false o1.dst o2.dst (lay (lst listed) 0 qs xs tmps)) o2 = some true := by unfold wantA; rw [hg2]
        rw [if_pos (wantA_sound hT hw)]
        refine .inl (evOp_sound hG hK hC hT hW (he2 _ _ (hev _ _ o2 hc)) _ _ fun u S2 pl2 w2 hE2 hW2 hR => ?_)
        cases h1 : lst listed m with
        | false =>
          rw [h1] at hE hW hT hE2 hW2 hR
          refine ih _ S2 pl2 _ w2 hsz' hun' hcl' hbig' ?_ ?_ ?_ <;> rw [hself, hoth m (by omega), h1]
          · exact hE.trans hE2
          · exact hW2
          · rw [hle]
            exact (hT.mono hE2).put o2.dst hR
        | true =>
          rw [h1] at hE hW hT hE2 hW2 hR
          have hT2 := (hT.mono hE2).put o2.dst hR
          simp only [mem2, tm2, List.append_assoc, List.cons_append, List.nil_append, List.length_append, List.length_cons, List.length_nil, Nat.zero_add] at hE hW hT hE2 hW2 hR hT2
          refine ih _ S2 pl2 _ w2 hsz' hun' hcl' hbig' ?_ ?_ ?_ <;> rw [hself, hoth m (by omega), h1]
          · exact hE.trans hE2
          · exact hW2
          · rw [hle]
            exact hT2
end
end Go.Proofs.YtalkodandfjkmaaDoor.Av

/- Rows of operations whose order is drawn, and that write: the text's order answers all the same, where those that must wait do. -/
set_option linter.unusedVariables false
set_option linter.unusedSimpArgs false
set_option linter.unusedSectionVars false
namespace Go.Proofs.YtalkodandfjkmaaDoor.Av
open Go Go.RowKit
variable {P : Program}
section
variable {S : Sto} {H : List Blk} {pl : Pl} {G : World → Prop} {B : Nat} {w0 w : World} {C : Ctx}

theorem evOpE_congr {call : Nat → List AV → List Blk → Option (AV × List Blk)} {t1 t2 : List AV} {o : Oper} (h : ∀ x ∈ o.op.operands, evA t1 x = evA t2 x) : evOpE C call t1 H o = evOpE C call t2 H o := by
  cases ho : o.op with
  | assign x =>
    unfold evOpE
    rw [ho]
    cases x with
    | const v => cases v with
      | slice a n c => cases a with
        | none => cases n with
          | zero => cases c <;> rfl
          | succ n => rfl
        | some a => rfl
      | _ => rfl
    | _ => rfl
  | slice t x lo hi mx =>
    have hx := h x (by simp [ho, Op.operands])
    have h1 := omap_congr (t1 := t1) (t2 := t2) (x := lo) (fun y hy => h y (by cases lo <;> simp_all [ho, Op.operands]))
    have h2 := omap_congr (t1 := t1) (t2 := t2) (x := hi) (fun y hy => h y (by cases hi <;> simp_all [ho, Op.operands]))
    have h3 := omap_congr (t1 := t1) (t2 := t2) (x := mx) (fun y hy => h y (by cases mx <;> simp_all [ho, Op.operands]))
    simp only [evOpE, ho, hx, h1, h2, h3]
  | convert s d x => have hx := h x (by simp [ho, Op.operands]); simp only [evOpE, ho, hx]
  | alloc t => simp only [evOpE, ho]
  | box t x => have hx := h x (by simp [ho, Op.operands]); simp only [evOpE, ho, hx]
  | store t x y =>
    have hx := h x (by simp [ho, Op.operands])
    have hy := h y (by simp [ho, Op.operands])
    simp only [evOpE, ho, hx, hy]
  | buildSlice t n parts =>
    have hp : (parts.toList.map fun p => (p.1, evA t1 p.2)) = (parts.toList.map fun p => (p.1, evA t2 p.2)) := by
      apply List.map_congr_left
      intro p hp
      rw [h p.2 (by simp only [ho, Op.operands, List.mem_toArray]; exact List.mem_map.2 ⟨p, hp, rfl⟩)]
    simp only [evOpE, ho, hp]
  | call c =>
    have ha := map_congr' (t1 := t1) (t2 := t2) (xs := c.args.toList) (fun x hx => h x (by simp at hx; simp [ho, Op.operands, Call.operands, hx]))
    cases hc : c.callee with
    | value f =>
      have hf := h f (by simp [ho, Op.operands, Call.operands, hc])
      simp only [evOpE, ho, hc, hf, ha]
    | invoke r m => simp only [evOpE, ho, hc]
    | builtin b =>
      cases b <;> simp only [evOpE, ho, hc]
      split
      · rename_i s x t t' hxs hts
        have hs := h s (by
          have : s ∈ c.args.toList := by rw [hxs]; simp
          simp at this
          simp [ho, Op.operands, Call.operands, this])
        have hx := h x (by
          have : x ∈ c.args.toList := by rw [hxs]; simp
          simp at this
          simp [ho, Op.operands, Call.operands, this])
        simp only [hs, hx]
      · rfl
  | _ => simp only [evOpE, ho]
theorem evOp_congr {call : Nat → List AV → List Blk → Option (AV × List Blk)} {t1 t2 : List AV} {o : Oper} (h : ∀ x ∈ o.op.operands, evA t1 x = evA t2 x) : evOp C P call t1 H o = evOp C P call t2 H o := by
  unfold evOp
  rw [evOpE_congr h, evOpQ_congr h]
/-- What looks at no memory. -/
theorem pureQ_eq {H1 H2 : List Blk} {tmps : List AV} {o : Oper} (h : memQ o = false) : evOpQ C P tmps H1 o = evOpQ C P tmps H2 o := by
  unfold memQ at h
  cases ho : o.op with
  | binOp b t x y t' =>
    unfold evOpQ
    rw [ho]
    cases b <;> rfl
  | makeFunc fn first caps =>
    unfold evOpQ
    rw [ho]
    cases fn <;> rfl
  | _ => rw [ho] at h; first | (cases h; done) | (simp only [evOpQ, ho]; done) | (simp only [evOpQ, ho]; rfl)

theorem clo_sub {ops : List Oper} (L : Nat → Bool) (hcl : ∀ j p, ops[j]? = some p → L j = true → ∀ k ∈ afters p, L k = true) : ∀ (n : Nat) (R : List Nat), (∀ k ∈ R, L k = true) → ∀ k ∈ clo ops n R, L k = true
  | 0, R, hR, k, hk => hR k hk
  | n + 1, R, hR, k, hk => by
    rw [clo] at hk
    refine clo_sub L hcl n _ ?_ k hk
    intro q hq
    split at hq
    · rename_i hn
      have hLn : L n = true := hR n (by simpa using hn)
      split at hq
      · rename_i p hp
        rcases List.mem_append.1 hq with hq | hq
        · exact hcl n p hp hLn q hq
        · exact hR q hq
      · exact hR q hq
    · exact hR q hq

theorem newOk_inv {ops : List Oper} (h : newOk C ops = true) {i : Nat} {o : Oper} (ho : ops[i]? = some o) :
    (∀ k ∈ afters o, k < i) ∧ (∀ (j : Nat) p t, ops[j]? = some p → p.dst = some t → i ≠ j → o.dst ≠ some t ∧ (t ∈ reads ops o → if j < i then j ∈ afters o else i ∈ afters p)) ∧
    ∀ (j : Nat) p, ops[j]? = some p → j < i → mustWait C (floatAt C ops) o i p j = true → j ∈ clo ops i (afters o) := by
  have hm : (o, i) ∈ ops.zipIdx := by
    rw [List.mem_zipIdx_iff_getElem?]
    exact ho
  have := List.all_eq_true.1 h _ hm
  simp only [Bool.and_eq_true, List.all_eq_true] at this
  obtain ⟨⟨⟨h1, _⟩, h2⟩, h4⟩ := this
  refine ⟨fun k hk => by simpa using h1 k hk, fun j p t hp hd hij => ?_, fun j p hp hj hm => ?_⟩
  · have hm' : (p, j) ∈ ops.zipIdx := by
      rw [List.mem_zipIdx_iff_getElem?]
      exact hp
    have h3 := h2 _ hm'
    simp only [hd, Bool.or_eq_true, Bool.and_eq_true, Bool.not_eq_true', beq_iff_eq, beq_eq_false_iff_ne] at h3
    rcases h3 with h3 | ⟨h3, h4⟩
    · exact absurd h3 hij
    · refine ⟨h3, fun ht => ?_⟩
      rcases h4 with h4 | h4
      · rw [List.contains_eq_mem] at h4
        simp [ht] at h4
      · split at h4
        · rename_i hlt; rw [if_pos hlt]; simpa using h4
        · rename_i hlt; rw [if_neg hlt]; simpa using h4
  · have hm' : (p, j) ∈ ops.zipIdx := by
      rw [List.mem_zipIdx_iff_getElem?]
      exact hp
    have h5 := h4 _ hm'
    simp only [Bool.or_eq_true, hm, Bool.not_true, decide_eq_true hj, Bool.false_eq_true, or_false, false_or] at h5
    simpa using h5

/-- The steps of the text's order. -/
def Steps (C : Ctx) (P : Program) (call : Nat → List AV → List Blk → Option (AV × List Blk)) (ops : Array Oper) (k0 : Nat) (l : List Oper) (X : Nat → AV) (D : Nat → Ds) : Prop :=
  ∀ (j : Nat) o, l[j]? = some o → stD C P call ops (floatAt C ops.toList) (waitsF C ops.toList (k0 + j) o) (k0 + j) o (D j) = some (X j, D (j + 1))
theorem evD_inv {call : Nat → List AV → List Blk → Option (AV × List Blk)} {ops : Array Oper} : ∀ (l : List Oper) (k : Nat) (d d' : Ds), evD C P call ops k l d = some d' → ∃ (X : Nat → AV) (D : Nat → Ds), D 0 = d ∧ D l.length = d' ∧ Steps C P call ops k l X D
  | [], k, d, d', e => by
    simp only [evD, Option.some.injEq] at e
    subst e
    exact ⟨fun _ => .any, fun _ => d, rfl, rfl, fun j o h => by simp at h⟩
  | o :: l, k, d, d', e => by
    simp only [evD] at e
    split at e
    · rename_i x d1 hs
      obtain ⟨X, D, h0, h1, h2⟩ := evD_inv l (k + 1) d1 d' e
      refine ⟨fun j => match j with | 0 => x | j + 1 => X j, fun j => match j with | 0 => d | j + 1 => D j, rfl, by simpa using h1, fun j p hp => ?_⟩
      cases j with
      | zero =>
        simp at hp
        subst hp
        simpa [h0] using hs
      | succ j =>
        have := h2 j p (by simpa using hp)
        simpa [Nat.add_assoc, Nat.add_comm 1 j] using this
    · cases e

/-- The last loud one that is listed, and one more. -/
def top (lo L : Nat → Bool) : Nat → Nat
  | 0 => 0
  | i + 1 => if lo i && L i then i + 1 else top lo L i
theorem top_congr {lo L1 L2 : Nat → Bool} : ∀ n, (∀ j, j < n → lo j = true → L1 j = L2 j) → top lo L1 n = top lo L2 n
  | 0, _ => rfl
  | n + 1, h => by
    have ih := top_congr n fun j hj => h j (by omega)
    rw [top, top, ih]
    cases hl : lo n with
    | false => rfl
    | true => rw [h n (by omega) hl]
theorem top_le {lo L : Nat → Bool} : ∀ n, top lo L n ≤ n
  | 0 => Nat.le_refl _
  | n + 1 => by
    rw [top]
    split
    · exact Nat.le_refl _
    · have := top_le (lo := lo) (L := L) n; omega
theorem top_none {lo L : Nat → Bool} : ∀ n, (∀ j, j < n → lo j = true → L j = false) → top lo L n = 0
  | 0, _ => rfl
  | n + 1, h => by
    rw [top, top_none n fun j hj => h j (by omega)]
    cases hl : lo n with
    | false => rfl
    | true => rw [h n (by omega) hl]; rfl
theorem top_is {lo L : Nat → Bool} {i : Nat} (hi : lo i = true) (hL : L i = true) : ∀ n, i < n → (∀ j, i < j → j < n → lo j = true → L j = false) → top lo L n = i + 1
  | n + 1, h, hj => by
    rw [top]
    by_cases he : n = i
    · subst he; rw [hi, hL]; rfl
    · have ih := top_is hi hL n (by omega) fun j h1 h2 => hj j h1 (by omega)
      rw [ih]
      cases hl : lo n with
      | false => rfl
      | true => rw [hj n (by omega) (by omega) hl]; rfl

theorem Ds.q_none {d : Ds} {w : Bool} (h : d.pre = none) : d.q w = d.H := by unfold Ds.q; rw [h]
theorem lay_none : ∀ (k : Nat) (os : List Oper) (xs tmps : List AV), lay (fun _ => false) k os xs tmps = tmps
  | k, [], xs, tmps => rfl
  | k, o :: os, [], tmps => rfl
  | k, o :: os, x :: xs, tmps => by rw [lay]; simp [lay_none (k + 1) os xs tmps]
theorem lay_lt : ∀ (os : List Oper) (xs tmps : List AV) (j : Nat), xs.length = os.length → lay (fun q => decide (q < j)) 0 os xs tmps = lay (fun _ => true) 0 (os.take j) (xs.take j) tmps
  | [], xs, tmps, j, h => by simp [lay]
  | o :: os, [], tmps, j, h => by cases h
  | o :: os, x :: xs, tmps, 0, h => by
    have : (fun q : Nat => decide (q < 0)) = fun _ => false := by funext q; simp
    rw [this, lay_none]
    rfl
  | o :: os, x :: xs, tmps, j + 1, h => by
    rw [List.take_succ_cons, List.take_succ_cons, lay, lay, lay_shift, lay_shift]
    have : (fun q => decide (q + 1 < j + 1)) = fun q => decide (q < j) := by funext q; simp
    rw [this, lay_lt os xs _ j (by simpa using h)]
    simp
theorem lay_snoc : ∀ (os : List Oper) (xs tmps : List AV) (o : Oper) (x : AV), xs.length = os.length → lay (fun _ => true) 0 (os ++ [o]) (xs ++ [x]) tmps = put (lay (fun _ => true) 0 os xs tmps) o.dst x
  | [], [], tmps, o, x, _ => rfl
  | [], y :: xs, tmps, o, x, h => by cases h
  | q :: os, [], tmps, o, x, h => by cases h
  | q :: os, y :: xs, tmps, o, x, h => by
    rw [List.cons_append, List.cons_append, lay, lay, lay_shift, lay_shift]
    exact lay_snoc os xs _ o x (by simpa using h)
theorem cutAt_quiet : ∀ (l : List Oper) (j : Nat) o, l[j]? = some o → j < cutAt C l → quietOp C [] o = true
  | [], j, o, h, _ => by simp at h
  | p :: l, j, o, h, hj => by
    unfold cutAt at hj
    split at hj
    · rename_i hq
      cases j with
      | zero => simp at h; subst h; exact hq
      | succ j => exact cutAt_quiet l j o (by simpa using h) (by omega)
    · omega
theorem cutAt_loud : ∀ (l : List Oper) o, l[cutAt C l]? = some o → quietOp C [] o = false
  | [], o, h => by simp at h
  | p :: l, o, h => by
    unfold cutAt at h
    split at h
    · exact cutAt_loud l o (by simpa using h)
    · rename_i hq
      simp at h
      subst h
      exact hq
theorem floatAt_some {ops : List Oper} {f : Nat} (h : floatAt C ops = some f) : f = cutAt C ops ∧ ∃ o t, ops[f]? = some o ∧ o.op = .alloc t ∧ o.guard = none := by
  unfold floatAt at h
  split at h
  · rename_i o ho
    split at h
    · rename_i t hop hg
      obtain rfl := Option.some.inj h
      exact ⟨rfl, o, t, ho, hop, hg⟩
    · cases h
  · cases h
def lou (C : Ctx) (ops : List Oper) (j : Nat) : Bool := match ops[j]? with
  | some p => !quietOp C [] p
  | none => false
theorem lou_of {ops : List Oper} {j : Nat} {p : Oper} (h : ops[j]? = some p) : lou C ops j = !quietOp C [] p := by unfold lou; rw [h]

section
variable {call : Nat → List AV → List Blk → Option (AV × List Blk)} {ops : Array Oper} {X : Nat → AV} {D : Nat → Ds} {tmps : List AV}
theorem st_tmps {f : Option Nat} {w : Bool} {k : Nat} {o : Oper} {d d' : Ds} {x : AV} (e : stD C P call ops f w k o d = some (x, d')) : d'.tmps = put d.tmps o.dst x := by
  unfold stD at e
  split at e
  · split at e
    · split at e
      · simp only [Option.some.injEq, Prod.mk.injEq] at e; obtain ⟨rfl, rfl⟩ := e; rfl
      · cases e
    · split at e
      · simp only [Option.some.injEq, Prod.mk.injEq] at e; obtain ⟨rfl, rfl⟩ := e; rfl
      · cases e
  · simp only [Option.some.injEq, Prod.mk.injEq] at e; obtain ⟨rfl, rfl⟩ := e; rfl
  · cases e
theorem st_quiet {f : Option Nat} {w : Bool} {k : Nat} {o : Oper} {d d' : Ds} {x : AV} (hq : quietOp C [] o = true) (e : stD C P call ops f w k o d = some (x, d')) : d'.H = d.H ∧ d'.pre = d.pre := by
  unfold stD at e
  simp only [hq, if_true] at e
  split at e
  · split at e
    · simp only [Option.some.injEq, Prod.mk.injEq] at e; obtain ⟨rfl, rfl⟩ := e; exact ⟨rfl, rfl⟩
    · cases e
  · simp only [Option.some.injEq, Prod.mk.injEq] at e; obtain ⟨rfl, rfl⟩ := e; exact ⟨rfl, rfl⟩
  · cases e
theorem st_float {f k : Nat} {w : Bool} {o : Oper} {d d' : Ds} {x : AV} {t : Nat} (hq : quietOp C [] o = false) (hop : o.op = .alloc t) (hg : o.guard = none) (e : stD C P call ops (some f) w f o d = some (x, d')) : (∃ b, d'.H = d.H ++ b) ∧ d'.pre = some d.H := by
  unfold stD at e
  have hw : wantA ops d.tmps o = some true := by simp only [wantA, hg]
  simp only [hw, hq] at e
  split at e
  · rename_i y H' ho
    simp only [Option.some.injEq, Prod.mk.injEq, beq_self_eq_true, if_true] at e
    obtain ⟨rfl, rfl⟩ := e
    refine ⟨?_, rfl⟩
    unfold evOp at ho
    simp only [evOpE, hop] at ho
    split at ho
    · rename_i r hr
      split at hr
      · obtain rfl := Option.some.inj hr
        simp only [Option.some.injEq, Prod.mk.injEq] at ho
        exact ⟨_, ho.2.symm⟩
      · split at hr
        · obtain rfl := Option.some.inj hr
          simp only [Option.some.injEq, Prod.mk.injEq] at ho
          exact ⟨_, ho.2.symm⟩
        · cases hr
    · simp only [evOpQ, hop] at ho
      cases ho
  · cases e
theorem st_loud {f : Option Nat} {w : Bool} {k : Nat} {o : Oper} {d d' : Ds} {x : AV} (hq : quietOp C [] o = false) (hf : f ≠ some k) (e : stD C P call ops f w k o d = some (x, d')) : d'.pre = none := by
  have hf' : (f == some k) = false := by
    cases f with
    | none => rfl
    | some g => simp at hf; simpa using hf
  unfold stD at e
  simp only [hq, hf'] at e
  split at e
  · split at e
    · simp only [Option.some.injEq, Prod.mk.injEq] at e; obtain ⟨rfl, rfl⟩ := e; rfl
    · cases e
  · simp only [Option.some.injEq, Prod.mk.injEq] at e; obtain ⟨rfl, rfl⟩ := e; rfl
  · cases e

variable (hst : Steps C P call ops 0 ops.toList X D) (h0 : D 0 = ⟨tmps, H, none⟩)
include hst h0
theorem D_tmps : ∀ j, j ≤ ops.size → (D j).tmps = lay (fun q => decide (q < j)) 0 ops.toList ((List.range ops.size).map X) tmps
  | 0, _ => by
    have : (fun q : Nat => decide (q < 0)) = fun _ => false := by funext q; simp
    rw [this, lay_none, h0]
  | j + 1, h => by
    have hj : ops.toList[j]? = some ops[j] := by simp [h]
    have e := hst j _ hj
    rw [st_tmps e, D_tmps j (by omega), lay_lt _ _ _ j (by simp), lay_lt _ _ _ (j + 1) (by simp)]
    have h1 : ops.toList.take (j + 1) = ops.toList.take j ++ [ops[j]] := by
      rw [List.take_succ_eq_append_getElem (by simp; omega)]
      simp
    have h2 : ((List.range ops.size).map X).take (j + 1) = ((List.range ops.size).map X).take j ++ [X j] := by
      rw [List.take_succ_eq_append_getElem (by simp; omega)]
      simp
    rw [h1, h2, lay_snoc _ _ _ _ _ (by simp)]
theorem D_top : ∀ j, j ≤ ops.size → (D (top (lou C ops.toList) (fun i => decide (i < j)) ops.size)).H = (D j).H
  | 0, _ => by rw [top_none _ fun i _ _ => by simp]
  | j + 1, h => by
    have hj : ops.toList[j]? = some ops[j] := by simp [h]
    cases hl : lou C ops.toList j with
    | true => rw [top_is (i := j) hl (by simp) _ (by omega) fun i h1 _ _ => by simp; omega]
    | false =>
      rw [lou_of hj] at hl
      have hq : quietOp C [] ops[j] = true := by simpa using hl
      rw [(st_quiet hq (hst j _ hj)).1, ← D_top j (by omega)]
      rw [top_congr (L2 := fun i => decide (i < j)) _ fun i hi hli => ?_]
      by_cases he : i = j
      · subst he; rw [lou_of hj, hq] at hli; cases hli
      · simp only [decide_eq_decide]; omega
theorem D_pre : ∀ j, j ≤ ops.size → ∀ H0, (D j).pre = some H0 → ∃ f, floatAt C ops.toList = some f ∧ f < j ∧ H0 = (D f).H ∧ ∀ i, f < i → i < j → lou C ops.toList i = false
  | 0, _, H0, h => by rw [h0] at h; cases h
  | j + 1, hj, H0, h => by
    have ho : ops.toList[j]? = some ops[j] := by simp [hj]
    have e := hst j _ ho
    cases hq : quietOp C [] ops[j] with
    | true =>
      rw [(st_quiet hq e).2] at h
      obtain ⟨f, h1, h2, h3, h4⟩ := D_pre j (by omega) H0 h
      refine ⟨f, h1, by omega, h3, fun i hi1 hi2 => ?_⟩
      by_cases he : i = j
      · subst he; rw [lou_of ho, hq]; rfl
      · exact h4 i hi1 (by omega)
    | false =>
      by_cases hf : floatAt C ops.toList = some (0 + j)
      · obtain ⟨_, o', t, ho', hop, hg⟩ := floatAt_some hf
        rw [Nat.zero_add] at ho'
        rw [ho] at ho'
        obtain rfl := Option.some.inj ho'
        rw [hf] at e
        have := (st_float (k := 0) hq hop hg (by simpa using e)).2
        rw [h] at this
        exact ⟨j, by simpa using hf, by omega, Option.some.inj this, fun i h1 h2 => by omega⟩
      · rw [st_loud hq hf e] at h
        cases h
theorem D_pre' {f : Nat} (hf : floatAt C ops.toList = some f) : ∀ j, j ≤ ops.size → f < j → (∀ i, f < i → i < j → lou C ops.toList i = false) → (D j).pre = some (D f).H
  | 0, _, h, _ => by omega
  | j + 1, hj, hfj, hno => by
    have ho : ops.toList[j]? = some ops[j] := by simp [hj]
    have e := hst j _ ho
    by_cases he : f = j
    · subst he
      obtain ⟨hc, o', t, ho', hop, hg⟩ := floatAt_some hf
      rw [ho] at ho'
      obtain rfl := Option.some.inj ho'
      have hq : quietOp C [] ops[f] = false := cutAt_loud _ _ (by rw [← hc]; exact ho)
      rw [hf] at e
      exact (st_float (k := 0) hq hop hg (by simpa using e)).2
    · have hq : quietOp C [] ops[j] = true := by
        have := hno j (by omega) (by omega)
        rw [lou_of ho] at this
        simpa using this
      rw [(st_quiet hq e).2]
      exact D_pre' hf j (by omega) (by omega) fun i h1 h2 => hno i h1 (by omega)
theorem D_float {f : Nat} (hf : floatAt C ops.toList = some f) : ∃ b, (D (f + 1)).H = (D f).H ++ b := by
  obtain ⟨hc, o', t, ho', hop, hg⟩ := floatAt_some hf
  have e := hst f _ ho'
  have hq : quietOp C [] o' = false := cutAt_loud _ _ (by rw [← hc]; exact ho')
  rw [hf] at e
  exact (st_float (k := 0) hq hop hg (by simpa using e)).1
theorem no_loud {f j : Nat} (hf : floatAt C ops.toList = some f) (hj : j < f) : lou C ops.toList j = false := by
  obtain ⟨hc, o', t, ho', _⟩ := floatAt_some hf
  have : j < ops.toList.length := by have := (List.getElem?_eq_some_iff.1 ho').1; omega
  rw [lou_of (List.getElem?_eq_getElem this), cutAt_quiet _ _ _ (List.getElem?_eq_getElem this) (by rw [← hc]; exact hj)]
  rfl

/-- A loud one finds the memory of the text's order. -/
theorem loud_at (hok : newOk C ops.toList = true) {L : Nat → Bool} (hcl : ∀ j p, ops.toList[j]? = some p → L j = true → ∀ k ∈ afters p, L k = true) {i : Nat} {o : Oper} (ho : ops.toList[i]? = some o) (hli : L i = false) (haf : ∀ k ∈ afters o, L k = true)
    (hq : quietOp C [] o = false) : ∀ j, lou C ops.toList j = true → L j = decide (j < i) := by
  intro j hlj
  unfold lou at hlj
  split at hlj
  · rename_i p hp
    have hqp : quietOp C [] p = false := by simpa using hlj
    by_cases hji : j < i
    · rw [decide_eq_true hji]
      exact clo_sub L hcl i _ haf j ((newOk_inv hok ho).2.2 j p hp hji (by simp [mustWait, hq, hqp]))
    · rw [decide_eq_false hji]
      by_cases he : j = i
      · rw [he]; exact hli
      · cases hLj : L j with
        | false => rfl
        | true =>
          have := clo_sub L hcl j _ (hcl j p hp hLj) i ((newOk_inv hok hp).2.2 i o ho (by omega) (by simp [mustWait, hq, hqp]))
          rw [hli] at this
          cases this
  · cases hlj
theorem quiet_at (hok : newOk C ops.toList = true) {L : Nat → Bool} (hcl : ∀ j p, ops.toList[j]? = some p → L j = true → ∀ k ∈ afters p, L k = true) {i : Nat} {o : Oper} (ho : ops.toList[i]? = some o) (hli : L i = false) (haf : ∀ k ∈ afters o, L k = true)
    (hq : quietOp C [] o = true) {x : AV} (e : evOpQ C P (D i).tmps ((D i).q (waitsF C ops.toList i o)) o = some x) : evOpQ C P (D i).tmps (D (top (lou C ops.toList) L ops.size)).H o = some x := by
  have hi : i < ops.size := by simpa using (List.getElem?_eq_some_iff.1 ho).1
  cases hm : memQ o with
  | false => rw [pureQ_eq hm]; exact e
  | true =>
    have key : ∀ j, lou C ops.toList j = true → floatAt C ops.toList ≠ some j → L j = decide (j < i) := by
      intro j hlj hfj
      have hf' : (floatAt C ops.toList == some j) = false := by
        cases hf : floatAt C ops.toList with
        | none => rfl
        | some g => rw [hf] at hfj; simp at hfj; simpa using hfj
      unfold lou at hlj
      split at hlj
      · rename_i p hp
        have hqp : quietOp C [] p = false := by simpa using hlj
        by_cases hji : j < i
        · rw [decide_eq_true hji]
          exact clo_sub L hcl i _ haf j ((newOk_inv hok ho).2.2 j p hp hji (by simp only [mustWait, hq, hqp, hm, hf']; rfl))
        · rw [decide_eq_false hji]
          by_cases he : j = i
          · rw [he]; exact hli
          · cases hLj : L j with
            | false => rfl
            | true =>
              have := clo_sub L hcl j _ (hcl j p hp hLj) i ((newOk_inv hok hp).2.2 i o ho (by omega) (by simp only [mustWait, hq, hqp, hm, hf']; rfl))
              rw [hli] at this
              cases this
      · cases hlj
    have hloi : lou C ops.toList i = false := by rw [lou_of ho, hq]; rfl
    cases hf : floatAt C ops.toList with
    | none =>
      rw [top_congr (L2 := fun j => decide (j < i)) _ fun j _ hl => key j hl (by rw [hf]; simp), D_top hst h0 i (by omega)]
      have hp : (D i).pre = none := by
        cases hp : (D i).pre with
        | none => rfl
        | some H0 => obtain ⟨f, h1, _⟩ := D_pre hst h0 i (by omega) H0 hp; rw [hf] at h1; cases h1
      rwa [Ds.q_none hp] at e
    | some f =>
      have hfn : f < ops.size := by
        obtain ⟨_, o', t, ho', _⟩ := floatAt_some hf
        simpa using (List.getElem?_eq_some_iff.1 ho').1
      have hlf : lou C ops.toList f = true := by
        obtain ⟨hc, o', t, ho', _⟩ := floatAt_some hf
        rw [lou_of ho', cutAt_loud _ _ (by rw [← hc]; exact ho')]
        rfl
      obtain ⟨b, hb⟩ := D_float hst h0 hf
      have hDf : (D f).H = (D 0).H := by
        rw [← D_top hst h0 f (by omega), top_none]
        intro j _ hl
        simp only [decide_eq_false_iff_not]
        intro hj
        rw [no_loud hst h0 hf hj] at hl
        cases hl
      have hfi : f ≠ i := fun he => by rw [he, hloi] at hlf; cases hlf
      by_cases hLf : L f = decide (f < i)
      · rw [top_congr (L2 := fun j => decide (j < i)) _ fun j _ hl => by
          by_cases he : j = f
          · rw [he]; exact hLf
          · exact key j hl (by rw [hf]; simp; exact fun e => he e.symm), D_top hst h0 i (by omega)]
        cases hp : (D i).pre with
        | none => rwa [Ds.q_none hp] at e
        | some H0 =>
          obtain ⟨f', h1, h2, h3, h4⟩ := D_pre hst h0 i (by omega) H0 hp
          rw [hf] at h1
          obtain rfl := Option.some.inj h1
          have hDi : (D i).H = (D f).H ++ b := by
            rw [← hb, ← D_top hst h0 i (by omega), top_is (i := f) hlf (by simpa using h2) _ (by omega) fun j h5 _ hl => ?_]
            simp only [decide_eq_false_iff_not]
            intro hj
            rw [h4 j h5 hj] at hl
            cases hl
          unfold Ds.q at e
          rw [hp] at e
          cases hw : waitsF C ops.toList i o with
          | true => rw [hw] at e; exact e
          | false => rw [hw] at e; rw [hDi, ← h3]; exact evOpQ_more _ e
      · by_cases hlt : f < i
        · have hLff : L f = false := by rw [decide_eq_true hlt] at hLf; simpa using hLf
          have hw : waitsF C ops.toList i o = false := by
            unfold waitsF
            rw [hf]
            cases hc : (clo ops.toList i (afters o)).contains f with
            | false => exact hc
            | true =>
              have := clo_sub L hcl i _ haf f (by simpa using hc)
              rw [hLff] at this
              cases this
          have hno : ∀ j, f < j → j < i → lou C ops.toList j = false := fun j h1 h2 => by
            cases hl : lou C ops.toList j with
            | false => rfl
            | true =>
              have hLj := key j hl (by rw [hf]; simp; omega)
              rw [decide_eq_true h2] at hLj
              have hl' := hl
              unfold lou at hl
              split at hl
              · rename_i p hp
                have hqp : quietOp C [] p = false := by simpa using hl
                obtain ⟨hc, o', t, ho', hop, hg⟩ := floatAt_some hf
                have hqf : quietOp C [] o' = false := cutAt_loud _ _ (by rw [← hc]; exact ho')
                have := clo_sub L hcl j _ (hcl j p hp hLj) f ((newOk_inv hok hp).2.2 f o' ho' h1 (by simp [mustWait, hqp, hqf]))
                rw [hLff] at this
                cases this
              · cases hl
          have hp := D_pre' hst h0 hf i (by omega) hlt hno
          unfold Ds.q at e
          rw [hp, hw] at e
          rw [top_none, ← hDf]
          · exact e
          · intro j _ hl
            by_cases he : j = f
            · rw [he]; exact hLff
            · rw [key j hl (by rw [hf]; simp; exact fun e => he e.symm)]
              simp only [decide_eq_false_iff_not]
              intro hj
              by_cases hjf : j < f
              · rw [no_loud hst h0 hf hjf] at hl; cases hl
              · rw [hno j (by omega) hj] at hl; cases hl
        · have hLft : L f = true := by rw [decide_eq_false hlt] at hLf; simpa using hLf
          have hno : ∀ j, lou C ops.toList j = true → j ≠ f → L j = false := fun j hl he => by
            rw [key j hl (by rw [hf]; simp; exact fun e => he e.symm)]
            simp only [decide_eq_false_iff_not]
            intro hj
            rw [no_loud hst h0 hf (show j < f by omega)] at hl
            cases hl
          rw [top_is (i := f) hlf hLft _ hfn fun j h1 _ hl => hno j hl (by omega), hb, hDf]
          have hDi : (D i).H = (D 0).H := by
            rw [← D_top hst h0 i (by omega), top_none]
            intro j _ hl
            simp only [decide_eq_false_iff_not]
            intro hj
            rw [no_loud hst h0 hf (show j < f by omega)] at hl
            cases hl
          have hp : (D i).pre = none := by
            cases hp : (D i).pre with
            | none => rfl
            | some H0 =>
              obtain ⟨f', h1, h2, _⟩ := D_pre hst h0 i (by omega) H0 hp
              rw [hf] at h1
              obtain rfl := Option.some.inj h1
              omega
          rw [Ds.q_none hp, hDi] at e
          exact evOpQ_more _ e
end
theorem mem_afters_of {o : Oper} {e : Edge} (he : e ∈ o.after) (hb : Region.binds .any e = true) : e.on ∈ afters o := by
  unfold afters
  exact List.mem_filterMap.2 ⟨e, by simpa using he, by rw [if_pos hb]⟩
theorem draw_new (hM : P.follows .mixedOrders = true) (hG : ∀ w', Below B w0 w' → G w') (hK : CtxOk P C G) {call : Nat → List AV → List Blk → Option (AV × List Blk)} (hC : CallOk P C G B w0 call) {ops : Array Oper} {Q : Exit → Act → World → Prop} {tmps : List AV} {X : Nat → AV} {D : Nat → Ds} (hok : newOk C ops.toList = true)
    (h0 : D 0 = ⟨tmps, H, none⟩) (hst : Steps C P call ops 0 ops.toList X D)
    (hend : ∀ a S' pl' w', Ext B S H pl S' (D ops.size).H pl' → WRel G B w0 S' (D ops.size).H pl' w' → TRel S' (D ops.size).H pl' (D ops.size).tmps a → Q .normal a w') :
    ∀ (fuel : Nat) (listed : Array Bool) (S' : Sto) (pl' : Pl) (a : Act) (w : World), listed.size = ops.size → unl ops.size listed ≤ fuel → (∀ j o, ops[j]? = some o → lst listed j = true → ∀ k ∈ afters o, lst listed k = true) →
      Ext B S H pl S' (D (top (lou C ops.toList) (lst listed) ops.size)).H pl' → WRel G B w0 S' (D (top (lou C ops.toList) (lst listed) ops.size)).H pl' w → TRel S' (D (top (lou C ops.toList) (lst listed) ops.size)).H pl' (lay (lst listed) 0 ops.toList ((List.range ops.size).map X) tmps) a → wpAny P .any ops Q fuel listed a w := by
  have hops : ∀ (j : Nat), ops.toList[j]? = ops[j]? := fun j => by simp
  obtain ⟨xs, hxs⟩ : ∃ xs, (List.range ops.size).map X = xs := ⟨_, rfl⟩
  have hxl : xs.length = ops.toList.length := by rw [← hxs]; simp
  have hxi : ∀ i, i < ops.size → xs[i]? = some (X i) := fun i hi => by rw [← hxs]; simp [hi]
  have hDt := fun j hj => D_tmps hst h0 j hj
  rw [hxs] at hDt ⊢
  have hready : ∀ (listed : Array Bool), listed.size = ops.size → (Region.ready .any ops listed = [] → ∀ j, j < ops.size → lst listed j = true) := by
    intro listed hsz hr j
    induction j using Nat.strongRecOn with
    | _ j ih =>
      intro hj
      by_cases hl : lst listed j = true
      · exact hl
      · have hlf : lst listed j = false := by simpa using hl
        have ho : ops[j]? = some ops[j] := Array.getElem?_eq_getElem hj
        have hm : j ∈ Region.ready .any ops listed := by
          rw [mem_ready]
          refine ⟨?_, ops[j], ho, fun e he hb => ?_⟩
          · unfold lst at hlf
            simpa [Array.getD, hsz, hj] using hlf
          · have := (newOk_inv hok (i := j) (by rw [hops]; exact ho)).1 e.on (mem_afters_of he hb)
            exact ih e.on this (by omega)
        rw [hr] at hm
        cases hm
  have hnil : ∀ (listed : Array Bool), listed.size = ops.size → (∀ j, j < ops.size → lst listed j = true) → Region.ready .any ops listed = [] := by
    intro listed hsz hall
    rw [List.eq_nil_iff_forall_not_mem]
    intro j hj
    obtain ⟨h0, o, ho, _⟩ := mem_ready.1 hj
    have hlt : j < ops.size := (Array.getElem?_eq_some_iff.1 ho).1
    have := hall j hlt
    unfold lst at this
    simp [Array.getD, hsz, hlt] at this h0
    rw [this] at h0
    cases h0
  have hcongr : ∀ (listed : Array Bool) (i : Nat) (o : Oper), ops[i]? = some o → lst listed i = false → (∀ k ∈ afters o, lst listed k = true) → (∀ j o, ops[j]? = some o → lst listed j = true → ∀ k ∈ afters o, lst listed k = true) →
      ∀ t ∈ reads ops.toList o, (lay (lst listed) 0 ops.toList xs tmps)[t]? = (D i).tmps[t]? := by
    intro listed i o ho hli haft hcl t ht
    have hi : i < ops.size := (Array.getElem?_eq_some_iff.1 ho).1
    rw [hDt i (by omega)]
    refine lay_congr 0 ops.toList xs tmps tmps (fun j p hp hd => ?_) rfl rfl
    simp only [Nat.zero_add]
    rw [hops] at hp
    by_cases hij : i = j
    · subst hij; simp [hli]
    · have := ((newOk_inv hok (i := i) (by rw [hops]; exact ho)).2.1 j p t (by rw [hops]; exact hp) hd hij).2 ht
      by_cases hlt : j < i
      · rw [if_pos hlt] at this
        rw [haft j this]
        simp [hlt]
      · rw [if_neg hlt] at this
        rw [decide_eq_false hlt]
        cases hlj : lst listed j with
        | false => rfl
        | true =>
          have := hcl j p hp hlj i this
          rw [hli] at this
          cases this
  have hev : ∀ (listed : Array Bool) (i : Nat) (o : Oper), (∀ t ∈ reads ops.toList o, (lay (lst listed) 0 ops.toList xs tmps)[t]? = (D i).tmps[t]?) → ∀ y ∈ o.op.operands, evA (lay (lst listed) 0 ops.toList xs tmps) y = evA (D i).tmps y := by
    intro listed i o h y hy
    cases y with
    | tmp t =>
      have : t ∈ reads ops.toList o := by
        unfold reads opTmps
        refine List.mem_append.2 (.inl (List.mem_filterMap.2 ⟨.tmp t, by simpa using hy, rfl⟩))
      simp only [evA, List.getD, h t this]
    | _ => rfl
  have hwant : ∀ (listed : Array Bool) (i : Nat) (o : Oper), (∀ t ∈ reads ops.toList o, (lay (lst listed) 0 ops.toList xs tmps)[t]? = (D i).tmps[t]?) → wantA ops (lay (lst listed) 0 ops.toList xs tmps) o = wantA ops (D i).tmps o := by
    intro listed i o h
    unfold wantA
    cases hg : o.guard with
    | none => rfl
    | some jb =>
      obtain ⟨j, b⟩ := jb
      simp only
      cases hp : ops[j]? with
      | none => rfl
      | some p =>
        simp only [Option.bind_some]
        cases hd : p.dst with
        | none => rfl
        | some d =>
          have : d ∈ reads ops.toList o := by
            unfold reads
            refine List.mem_append.2 (.inr ?_)
            rw [hg]
            simp only [hops, hp, hd]
            simp
          simp only [List.getD, h d this]
  have hQ : ∀ (listed : Array Bool) (S' : Sto) (pl' : Pl) (a : Act) (w : World), (∀ j, j < ops.size → lst listed j = true) → Ext B S H pl S' (D (top (lou C ops.toList) (lst listed) ops.size)).H pl' → WRel G B w0 S' (D (top (lou C ops.toList) (lst listed) ops.size)).H pl' w → TRel S' (D (top (lou C ops.toList) (lst listed) ops.size)).H pl' (lay (lst listed) 0 ops.toList xs tmps) a → Q .normal a w := by
    intro listed S' pl' a w hall hE hW hT
    have h1 : top (lou C ops.toList) (lst listed) ops.size = top (lou C ops.toList) (fun i => decide (i < ops.size)) ops.size := top_congr _ fun j hj _ => by rw [hall j hj, decide_eq_true hj]
    have h2 : lay (lst listed) 0 ops.toList xs tmps = (D ops.size).tmps := by
      rw [hDt ops.size (Nat.le_refl _)]
      apply List.ext_getElem?
      intro t
      refine lay_congr 0 ops.toList xs tmps tmps (fun j p hp _ => ?_) rfl rfl
      rw [Nat.zero_add]
      have hj : j < ops.size := by simpa using (List.getElem?_eq_some_iff.1 hp).1
      rw [hall j hj, decide_eq_true hj]
    rw [h1] at hE hW hT
    rw [D_top hst h0 ops.size (Nat.le_refl _)] at hE hW hT
    rw [h2] at hT
    exact hend a S' pl' w hE hW hT
  intro fuel
  induction fuel with
  | zero =>
    intro listed S' pl' a w hsz hun hcl hE hW hT
    have hall : ∀ j, j < ops.size → lst listed j = true := by
      intro j hj
      have h0 : ((List.range ops.size).filter fun j => !lst listed j) = [] := List.eq_nil_of_length_eq_zero (by unfold unl at hun; omega)
      have := List.filter_eq_nil_iff.1 h0 j (List.mem_range.2 hj)
      simpa using this
    exact ⟨hnil listed hsz hall, hQ listed S' pl' a w hall hE hW hT⟩
  | succ fuel ih =>
    intro listed S' pl' a w hsz hun hcl hE hW hT
    refine ⟨fun hr => hQ listed S' pl' a w (hready listed hsz hr) hE hW hT, fun i hi => ?_⟩
    obtain ⟨h00, o, ho, haf⟩ := mem_ready.1 hi
    have hlt : i < ops.size := (Array.getElem?_eq_some_iff.1 ho).1
    have hli : lst listed i = false := by unfold lst; simpa [Array.getD, hsz, hlt] using h00
    have haft : ∀ k ∈ afters o, lst listed k = true := fun k hk => by
      obtain ⟨e, he, hb, rfl⟩ := mem_afters hk
      exact haf e he hb
    have hset := lst_set (listed := listed) (i := i) (by omega)
    have hot : ops.toList[i]? = some o := by rw [hops]; exact ho
    have hclt : ∀ j p, ops.toList[j]? = some p → lst listed j = true → ∀ k ∈ afters p, lst listed k = true := fun j p hp => hcl j p (by rw [← hops]; exact hp)
    have hc := hcongr listed i o ho hli haft hcl
    have hun' : unl ops.size (listed.setIfInBounds i true) ≤ fuel := by
      have := unl_lt (p := fun j => !lst listed j) (q := fun j => !lst (listed.setIfInBounds i true) j) (i := i) (by simp [hli]) (by simp [hset]) (fun j hj => by simp [hset] at hj; simp [hj.1]) (List.range ops.size) (List.mem_range.2 hlt)
      unfold unl at hun ⊢
      omega
    have hcl' : ∀ j p, ops[j]? = some p → lst (listed.setIfInBounds i true) j = true → ∀ k ∈ afters p, lst (listed.setIfInBounds i true) k = true := fun j p hp hj k hk => by
      rw [hset] at hj ⊢
      by_cases hji : j = i
      · subst hji
        rw [ho] at hp
        obtain rfl := Option.some.inj hp
        simp [haft k hk]
      · simp only [decide_eq_false hji, Bool.or_false] at hj
        simp [hcl j p hp hj k hk]
    have hlay : lay (lst (listed.setIfInBounds i true)) 0 ops.toList xs tmps = put (lay (lst listed) 0 ops.toList xs tmps) o.dst (X i) := by
      apply List.ext_getElem?
      intro t
      by_cases hd : o.dst = some t
      · by_cases htl : t < tmps.length
        · rw [lay_at 0 ops.toList xs tmps i o (X i) hot (hxi i hlt) hd (by rw [Nat.zero_add, hset]; simp) (fun j p hp hpd => ?_) htl, hd]
          · simp [put, lay_length, htl]
          · by_cases hij : i = j
            · exact hij.symm
            · exact absurd hd ((newOk_inv hok hot).2.1 j p t hp hpd hij).1
        · rw [List.getElem?_eq_none (by rw [lay_length]; omega), List.getElem?_eq_none (by rw [put_length, lay_length]; omega)]
      · rw [put_ne hd]
        refine lay_congr 0 ops.toList xs tmps tmps (fun j p hp hpd => ?_) rfl rfl
        rw [Nat.zero_add, hset]
        by_cases hji : j = i
        · subst hji
          rw [hot] at hp
          obtain rfl := Option.some.inj hp
          exact absurd hpd hd
        · simp [hji]
    have e := hst i o hot
    rw [Nat.zero_add] at e
    have hev' := hev listed i o hc
    unfold wpOp
    rw [ho]
    simp only
    cases hq : quietOp C [] o with
    | true =>
      have hlo : lou C ops.toList i = false := by rw [lou_of hot, hq]; rfl
      have htop : top (lou C ops.toList) (lst (listed.setIfInBounds i true)) ops.size = top (lou C ops.toList) (lst listed) ops.size := top_congr _ fun j _ hl => by
        rw [hset, decide_eq_false (fun he => by rw [he, hlo] at hl; cases hl), Bool.or_false]
      unfold stD at e
      split at e
      · rename_i hw
        simp only [hq] at e
        split at e
        · rename_i x hx
          simp only [Option.some.injEq, Prod.mk.injEq] at e
          obtain ⟨rfl, _⟩ := e
          have hx2 := quiet_at hst h0 hok hclt hot hli haft hq hx
          rw [← hwant listed i o hc] at hw
          rw [if_pos (wantA_sound hT hw)]
          refine .inl (evOpQ_sound hG hK hT hW (by rw [evOpQ_congr hev']; exact hx2) _ _ fun u S2 pl2 w2 hE2 hW2 hR => ?_)
          refine ih _ S2 pl2 _ w2 (by simpa using hsz) hun' hcl' ?_ ?_ ?_
          · rw [htop]; exact hE.trans hE2
          · rw [htop]; exact hW2
          · rw [htop, hlay]; exact (hT.mono hE2).put o.dst hR
        · cases e
      · rename_i hw
        simp only [Option.some.injEq, Prod.mk.injEq] at e
        obtain ⟨hX, _⟩ := e
        rw [← hwant listed i o hc] at hw
        rw [if_neg (by rw [wantA_sound hT hw]; decide)]
        refine ih _ S' pl' _ w (by simpa using hsz) hun' hcl' ?_ ?_ ?_
        · rw [htop]; exact hE
        · rw [htop]; exact hW
        · rw [htop, hlay, ← hX]; exact hT.put o.dst (.val _ _ (.v _))
      · cases e
    | false =>
      have hlo : lou C ops.toList i = true := by rw [lou_of hot, hq]; rfl
      have hL := loud_at hst h0 hok hclt hot hli haft hq
      have ht1 : top (lou C ops.toList) (lst listed) ops.size = top (lou C ops.toList) (fun j => decide (j < i)) ops.size := top_congr _ fun j _ hl => hL j hl
      have ht2 : top (lou C ops.toList) (lst (listed.setIfInBounds i true)) ops.size = i + 1 := top_is hlo (by rw [hset]; simp) _ hlt fun j h1 _ hl => by
        rw [hset, hL j hl, decide_eq_false (by omega), decide_eq_false (by omega)]; rfl
      rw [ht1] at hE hW hT
      rw [D_top hst h0 i (by omega)] at hE hW hT
      unfold stD at e
      split at e
      · rename_i hw
        simp only [hq] at e
        split at e
        · rename_i x H' hx
          simp only [Option.some.injEq, Prod.mk.injEq] at e
          obtain ⟨rfl, hD⟩ := e
          have hH : (D (i + 1)).H = H' := by rw [← hD]
          rw [← hwant listed i o hc] at hw
          rw [if_pos (wantA_sound hT hw)]
          refine .inl (evOp_sound hG hK hC hT hW (by rw [evOp_congr hev']; exact hx) _ _ fun u S2 pl2 w2 hE2 hW2 hR => ?_)
          refine ih _ S2 pl2 _ w2 (by simpa using hsz) hun' hcl' ?_ ?_ ?_
          · rw [ht2, hH]; exact hE.trans hE2
          · rw [ht2, hH]; exact hW2
          · rw [ht2, hH, hlay]; exact (hT.mono hE2).put o.dst hR
        · cases e
      · rename_i hw
        simp only [Option.some.injEq, Prod.mk.injEq] at e
        obtain ⟨hX, hD⟩ := e
        have hH : (D (i + 1)).H = (D i).H := by rw [← hD]
        rw [← hwant listed i o hc] at hw
        rw [if_neg (by rw [wantA_sound hT hw]; decide)]
        refine ih _ S' pl' _ w (by simpa using hsz) hun' hcl' ?_ ?_ ?_
        · rw [ht2, hH]; exact hE
        · rw [ht2, hH]; exact hW
        · rw [ht2, hH, hlay, ← hX]; exact hT.put o.dst (.val _ _ (.v _))
      · cases e

theorem zAV_hb (n : Nat) : ∀ (ks : List Nat) (us : List Value), AV.hbs n (zAV ks us) = true
  | ks, [] => by cases ks <;> rfl
  | [], u :: us => by simp only [zAV, AV.hbs, zAV_hb n [] us, Bool.and_true]; rfl
  | k :: ks, u :: us => by
    simp only [zAV, AV.hbs, zAV_hb n ks us, Bool.and_true]
    split <;> rfl
theorem cells_hb {n : Nat} {x : AV} (h : AV.hb n x = true) : AV.hbs n x.cells = true := by
  cases x with
  | agg cs =>
    show AV.hbs n cs = true
    simpa [AV.hb] using h
  | _ => simp only [AV.cells, AV.hbs, h]; rfl
theorem evA_hb {n : Nat} {T : List AV} (hT : ∀ (i : Nat) y, T[i]? = some y → AV.hb n y = true) (x : Operand) : AV.hb n (evA T x) = true := by
  cases x with
  | tmp t =>
    simp only [evA, List.getD]
    cases h : T[t]? with
    | none => rfl
    | some y => exact hT t y h
  | _ => rfl
theorem mk_of {call : Nat → List AV → List Blk → Option (AV × List Blk)} {T : List AV} {H1 H' : List Blk} {o : Oper} {x : AV} {n : Nat} (hm : mkOp C o = true) (e : evOp C P call T H1 o = some (x, H')) (hT : ∀ (i : Nat) y, T[i]? = some y → AV.hb n y = true) :
    o.guard = none ∧ ∃ cs, x = .ptr H1.length 0 ∧ H' = H1 ++ [.var cs] ∧ AV.hbs n cs = true ∧ ∀ (H2 : List Blk) (T2 : List AV), (∀ y ∈ o.op.operands, evA T2 y = evA T y) → evOp C P call T2 H2 o = some (.ptr H2.length 0, H2 ++ [.var cs]) := by
  unfold mkOp at hm
  split at hm
  · rename_i t ho hg
    refine ⟨hg, ?_⟩
    have hq : ∀ T' H', evOpQ C P T' H' o = none := fun T' H' => by simp only [evOpQ, ho]
    have key : ∃ zs, (C.td t).zero = some zs ∧ ∀ T2 H2, evOpE C call T2 H2 o = some (.ptr H2.length 0, H2 ++ [.var (zAV (C.zz t) zs)]) := by
      unfold evOp at e
      rw [hq] at e
      cases htd : C.td t with
      | sl a b c => rw [htd] at hm; cases hm
      | one z => exact ⟨[z], rfl, fun T2 H2 => by simp only [evOpE, ho, htd]; rfl⟩
      | agg sz fs zs => exact ⟨zs, rfl, fun T2 H2 => by simp only [evOpE, ho, htd]; rfl⟩
      | no =>
        have : evOpE C call T H1 o = none := by simp only [evOpE, ho, htd]; rfl
        rw [this] at e
        cases e
    obtain ⟨zs, hz, hE⟩ := key
    have h2 : ∀ T2 H2, evOp C P call T2 H2 o = some (.ptr H2.length 0, H2 ++ [.var (zAV (C.zz t) zs)]) := fun T2 H2 => by unfold evOp; rw [hE]
    rw [h2] at e
    simp only [Option.some.injEq, Prod.mk.injEq] at e
    obtain ⟨rfl, rfl⟩ := e
    exact ⟨_, rfl, rfl, zAV_hb n _ _, fun H2 T2 _ => h2 T2 H2⟩
  · rename_i t y ho hg
    refine ⟨hg, ?_⟩
    have hq : ∀ T' H', evOpQ C P T' H' o = none := fun T' H' => by simp only [evOpQ, ho]
    have hat : (evA T y).cells.all AV.atom = true ∧ x = .ptr H1.length 0 ∧ H' = H1 ++ [.var (evA T y).cells] := by
      unfold evOp at e
      rw [hq] at e
      simp only [evOpE, ho] at e
      by_cases h : (evA T y).cells.all AV.atom = true
      · rw [if_pos h] at e
        simp only [Option.some.injEq, Prod.mk.injEq] at e
        exact ⟨h, e.1.symm, e.2.symm⟩
      · rw [if_neg h] at e
        cases e
    obtain ⟨h1, rfl, rfl⟩ := hat
    refine ⟨_, rfl, rfl, cells_hb (evA_hb hT y), fun H2 T2 hy => ?_⟩
    have : evA T2 y = evA T y := hy y (by rw [ho]; simp [Op.operands])
    unfold evOp
    simp only [evOpE, ho, this, if_pos h1]
  · cases hm
theorem hbAt_get {n : Nat} {t : List AV} : ∀ {l : List Oper} {j : Nat} {o : Oper} {d : Nat}, hbAt n t l = true → l[j]? = some o → o.dst = some d → AV.hb n (t.getD d .any) = true
  | [], j, o, d, h, e, _ => by cases e
  | p :: l, 0, o, d, h, e, hd => by
    obtain rfl := Option.some.inj e
    unfold hbAt at h
    rw [Bool.and_eq_true, hd] at h
    exact h.1
  | p :: l, j + 1, o, d, h, e, hd => by
    unfold hbAt at h
    rw [Bool.and_eq_true] at h
    exact hbAt_get h.2 e hd
theorem evDrawTwo_sound (hM : P.follows .mixedOrders = true) (hG : ∀ w', Below B w0 w' → G w') (hK : CtxOk P C G) {call : Nat → List AV → List Blk → Option (AV × List Blk)} (hC : CallOk P C G B w0 call) {id : Nat} {ops : Array Oper} {Q : Exit → Act → World → Prop} {s s' : St} {a : Act} (h2 : twoOk C ops.toList = true)
    (e : (match evQs C P s.H ops (ops.toList.take (cutAt C ops.toList)) s.tmps with
        | some (_, t) => match hbAt s.H.length t (ops.toList.take (cutAt C ops.toList)) with
          | true => evOps C P call ops (ops.toList.drop (cutAt C ops.toList)) ⟨t, s.H, s.base⟩
          | false => none
        | none => none) = some s') (ht : TRel S s.H pl s.tmps a) (h : WRel G B w0 S s.H pl w) (k : Post P G B w0 S s.H pl s' (Q .normal)) : (Code.region id ops true).wp P Q a w := by
  unfold twoOk at h2
  rw [Bool.and_eq_true] at h2
  obtain ⟨hok, h2⟩ := h2
  have hops : ∀ (j : Nat), ops.toList[j]? = ops[j]? := fun j => by simp
  split at h2
  · rename_i o1 o2 r hdr
    simp only [Bool.and_eq_true] at h2
    obtain ⟨hm1, hm2, hr1, hr2, hsk⟩ := h2
    rw [hdr] at e
    split at e
    · rename_i xs t hq
      split at e
      · rename_i hhb
        obtain ⟨h1, ht2, h3⟩ := evQs_inv _ _ _ _ hq
        have hget : ∀ j, ops[cutAt C ops.toList + j]? = (o1 :: o2 :: r)[j]? := fun j => by rw [← hdr, List.getElem?_drop, hops]
        have ho1 : ops[cutAt C ops.toList]? = some o1 := by simpa using hget 0
        have ho2 : ops[cutAt C ops.toList + 1]? = some o2 := by simpa using hget 1
        have hlt : cutAt C ops.toList + 1 < ops.size := (Array.getElem?_eq_some_iff.1 ho2).1
        have htm : ∀ (i : Nat) y, s.tmps[i]? = some y → AV.hb s.H.length y = true := fun i y hy => by
          have hi : i < s.tmps.length := (List.getElem?_eq_some_iff.1 hy).1
          have : i < a.tmps.size := by rw [ht.2.1]; exact hi
          exact rep_hb y (ht.2.2 i y _ hy (Array.getElem?_eq_getElem this))
        have hqs : ∀ (i : Nat) o, (ops.toList.take (cutAt C ops.toList))[i]? = some o ↔ (ops[i]? = some o ∧ i < cutAt C ops.toList) := fun i o => by
          rw [List.getElem?_take]
          by_cases hi : i < cutAt C ops.toList
          · rw [if_pos hi]; simp [hi]
          · rw [if_neg hi]; exact ⟨(fun hh => by cases hh), (fun hh => absurd hh.2 hi)⟩
        have hxb : ∀ (j : Nat) o x d, (ops.toList.take (cutAt C ops.toList))[j]? = some o → xs[j]? = some x → o.dst = some d → d < s.tmps.length → AV.hb s.H.length x = true := fun j o x d hj hx hd hdl => by
          have h4 := hbAt_get hhb hj hd
          have h5 : t[d]? = some x := by
            rw [ht2]
            exact lay_at 0 _ xs s.tmps j o x hj hx hd rfl (fun q p hp hpd => by
              by_cases hqj : j = q
              · exact hqj.symm
              · exact absurd hd ((drawOk_inv hok (i := j) (by rw [hops]; exact ((hqs j o).1 hj).1)).2 q p d (by rw [hops]; exact ((hqs q p).1 hp).1) hpd hqj).1) hdl
          rw [List.getD, h5] at h4
          exact h4
        have hTl : ∀ (i : Nat) y, t[i]? = some y → AV.hb s.H.length y = true := fun i y hy => by
          rw [ht2] at hy
          rcases lay_mem 0 _ xs s.tmps hy with h | ⟨j, o, hj, hxj, hd, htl⟩
          · exact htm i y h
          · exact hxb j o y i hj hxj hd htl
        have hg1 : o1.guard = none := by
          unfold mkOp at hm1
          split at hm1 <;> first | assumption | cases hm1
        have hg2 : o2.guard = none := by
          unfold mkOp at hm2
          split at hm2 <;> first | assumption | cases hm2
        have hw1 : ∀ T, wantA ops T o1 = some true := fun T => by unfold wantA; rw [hg1]
        have hw2 : ∀ T, wantA ops T o2 = some true := fun T => by unfold wantA; rw [hg2]
        rw [evOps, hw1] at e
        simp only at e
        cases hv1 : evOp C P call t s.H o1 with
        | none => rw [hv1] at e; cases e
        | some r1 =>
          obtain ⟨x1, H1⟩ := r1
          rw [hv1] at e
          simp only at e
          obtain ⟨_, c1, rfl, rfl, hc1, he1⟩ := mk_of hm1 hv1 hTl
          rw [evOps, hw2] at e
          simp only at e
          cases hv2 : evOp C P call (put t o1.dst (.ptr s.H.length 0)) (s.H ++ [.var c1]) o2 with
          | none => rw [hv2] at e; cases e
          | some r2 =>
            obtain ⟨x2, H2⟩ := r2
            rw [hv2] at e
            simp only at e
            have hne : ∀ t', o1.dst = some t' → t' ∉ reads ops.toList o2 := fun t' hd hm => by
              rw [hd] at hr2
              simp at hr2
              exact hr2 hm
            have hne2 : ∀ t', o2.dst = some t' → t' ∉ reads ops.toList o1 := fun t' hd hm => by
              rw [hd] at hr1
              simp at hr1
              exact hr1 hm
            have hsame : ∀ y ∈ o2.op.operands, evA (put t o1.dst (.ptr s.H.length 0)) y = evA t y := fun y hy => by
              cases y with
              | tmp q =>
                have hq : q ∈ reads ops.toList o2 := by
                  unfold reads opTmps
                  exact List.mem_append.2 (.inl (List.mem_filterMap.2 ⟨.tmp q, by simpa using hy, rfl⟩))
                simp only [evA, List.getD]
                rw [put_ne fun hd => hne q hd hq]
              | _ => rfl
            have hv2' : evOp C P call t (s.H ++ [.var c1]) o2 = some (x2, H2) := by
              rw [← evOp_congr hsame]
              exact hv2
            obtain ⟨_, c2, rfl, rfl, hc2, he2⟩ := mk_of hm2 hv2' hTl
            rw [List.append_assoc] at e
            simp only [List.length_append, List.length_cons, List.length_nil, Nat.zero_add, List.cons_append, List.nil_append] at e
            refine wp_region_any hM ?_
            have hun : unl ops.size (Array.replicate ops.size false) ≤ ops.size := by
              unfold unl
              exact Nat.le_trans (List.length_filter_le _ _) (by simp)
            have hlf : ∀ j, lst (Array.replicate ops.size false) j = false := fun j => by
              unfold lst
              by_cases hj : j < ops.size <;> simp [hj]
            have hlay0 : ∀ (k : Nat) (os : List Oper) (xs tmps : List AV), lay (fun _ => false) k os xs tmps = tmps := by
              intro k os
              induction os generalizing k with
              | nil => intro xs tmps; rfl
              | cons o os ih => intro xs tmps; cases xs with
                | nil => rfl
                | cons x xs => rw [lay]; simp [ih]
            have hlf' : lst (Array.replicate ops.size false) = fun _ => false := funext hlf
            refine draw_two hM hG hK hC hok (S := S) (H := s.H) (pl := pl) (qs := ops.toList.take (cutAt C ops.toList)) (tmps := s.tmps) (xs := xs) (m := cutAt C ops.toList) (o1 := o1) (o2 := o2) (c1 := c1) (c2 := c2) hqs (by rw [h1]; simp; omega) h3 ho1 ho2 hg1 hg2 hne2 hne
              (fun H' T' hy => he1 H' T' (by rw [← ht2] at hy; exact hy)) (fun H' T' hy => he2 H' T' (by rw [← ht2] at hy; exact hy)) (low_of h.h) hc1 hc2 htm hxb (fun i hi L o ho hL hclo => ?_) (fun a2 S2 pl2 w2 hE hW hT => ?_) _ _ S pl a _ (by simp) hun (fun j o _ hj => by rw [hlf] at hj; cases hj) (fun j _ => hlf j) (by rw [hlf, hlf]; exact Ext.refl _ _ _) (by rw [hlf, hlf]; exact drew_W h hG) (by rw [hlf, hlf, hlf', hlay0]; exact ht)
            · obtain ⟨j, rfl⟩ : ∃ j, i = cutAt C ops.toList + 2 + j := ⟨i - (cutAt C ops.toList + 2), by omega⟩
              have hj : r[j]? = some o := by
                have := hget (2 + j)
                rw [← Nat.add_assoc, ho, show 2 + j = j + 1 + 1 by omega, List.getElem?_cons_succ, List.getElem?_cons_succ] at this
                exact this.symm
              have hs := sinkFrom_get _ _ hsk j o hj
              exact sinkR_sound L (fun j p hp => hclo j p (by simpa using hp)) _ _ hs hL
            · have hd : ops.toList.drop (cutAt C ops.toList + 2) = r := by rw [← List.drop_drop, hdr]; rfl
              rw [hd]
              rw [← ht2] at hT
              exact evOps_sound hG hK hC _ ⟨_, _, s.base⟩ s' S2 pl2 a2 w2 e hT hW fun a3 S3 pl3 w3 hE3 hW3 hT3 => k a3 S3 pl3 w3 (hE.trans hE3) hW3 hT3
      · cases e
    · cases e
  · cases h2
theorem evDraw_sound (hM : P.follows .mixedOrders = true) (hG : ∀ w', Below B w0 w' → G w') (hK : CtxOk P C G) {call : Nat → List AV → List Blk → Option (AV × List Blk)} (hC : CallOk P C G B w0 call) {id : Nat} {ops : Array Oper} {Q : Exit → Act → World → Prop} {s s' : St} {a : Act}
    (e : evDraw C P call ops s = some s') (ht : TRel S s.H pl s.tmps a) (h : WRel G B w0 S s.H pl w) (k : Post P G B w0 S s.H pl s' (Q .normal)) : (Code.region id ops true).wp P Q a w := by
  unfold evDraw at e
  split at e
  · rename_i hold
    exact evDrawOld_sound hM hG hK hC hold e ht h k
  · split at e
    · rename_i hok
      split at e
      · rename_i d hd
        obtain rfl := Option.some.inj e
        obtain ⟨X, D, h0, h1, hst⟩ := evD_inv _ _ _ _ hd
        have h1 : D ops.size = d := by simpa using h1
        refine wp_region_any hM ?_
        have hun : unl ops.size (Array.replicate ops.size false) ≤ ops.size := by
          unfold unl
          exact Nat.le_trans (List.length_filter_le _ _) (by simp)
        have hlf : lst (Array.replicate ops.size false) = fun _ => false := by
          funext j
          unfold lst
          by_cases hj : j < ops.size <;> simp [hj]
        have htop : top (lou C ops.toList) (lst (Array.replicate ops.size false)) ops.size = 0 := top_none _ fun j _ _ => by rw [hlf]
        refine draw_new hM hG hK hC (S := S) (H := s.H) (pl := pl) (tmps := s.tmps) hok h0 hst (fun a S2 pl2 w2 hE hW hT => ?_) _ _ S pl a _ (by simp) hun (fun j o _ hj => by rw [hlf] at hj; cases hj) ?_ ?_ ?_
        · rw [h1] at hE hW hT
          exact k a S2 pl2 w2 hE hW hT
        · rw [htop, h0]; exact Ext.refl _ _ _
        · rw [htop, h0]; exact drew_W h hG
        · rw [htop, h0, hlf, lay_none]; exact ht
      · cases e
    · split at e
      · rename_i h2
        exact evDrawTwo_sound hM hG hK hC h2 e ht h k
      · cases e
end
end Go.Proofs.YtalkodandfjkmaaDoor.Av

/- What the interpreter answers of code and functions, the program answers. -/
set_option linter.unusedVariables false
set_option linter.unusedSimpArgs false
namespace Go.Proofs.YtalkodandfjkmaaDoor.Av
open Go Go.RowKit
variable {P : Program}
section
variable {S : Sto} {H : List Blk} {pl : Pl} {G : World → Prop} {B : Nat} {w0 w : World} {C : Ctx}

mutual
theorem take_rep {n : Nat} (hn : n ≤ H.length) : (x : AV) → ∀ {u : Value}, AV.hb n x = true → Rep S H pl x u → Rep S (H.take n) pl x u
  | .any, u, _, r => .val _ _ (.any u)
  | .v x, u, _, r => by rw [r.v_inv]; exact .val _ _ (.v x)
  | .lst _ _ _ _, u, _, r => by cases r; exact .val _ _ (by assumption)
  | .z _ _, u, _, r => by cases r; exact .val _ _ (by assumption)
  | .ept _, u, _, r => by cases r; exact .val _ _ (by assumption)
  | .own id ver, u, h, r => by
    have hid : id < n := by simpa [AV.hb] using h
    cases r with
    | val _ _ r => cases r
    | own _ _ _ hi h1 k => exact .own _ _ _ (by simp; omega) h1 fun e sz v bv es q => k e sz v bv es (by rwa [List.getElem?_take, if_pos hid] at q)
  | .gpt id ver i off, u, h, r => by
    have hid : id < n := by simpa [AV.hb] using h
    cases r with
    | val _ _ r => cases r
    | gpt _ _ _ _ _ hi h1 k => exact .gpt _ _ _ _ _ (by simp; omega) h1 fun e sz v bv es q => k e sz v bv es (by rwa [List.getElem?_take, if_pos hid] at q)
  | .ptr id off, u, h, r => by
    have hid : id < n := by simpa [AV.hb] using h
    cases r with
    | val _ _ r => cases r
    | ptr _ _ _ hi h1 k => exact .ptr _ _ _ (by simp; omega) h1 fun cs q => k cs (by rwa [List.getElem?_take, if_pos hid] at q)
  | .agg cs, u, h, r => by
    obtain ⟨us, rfl, k⟩ := r.agg_inv
    have := takes_rep hn cs (by simpa [AV.hb] using h) k
    exact .agg cs us this.1 this.2
  | .tup cs, u, h, r => by
    obtain ⟨us, rfl, k⟩ := r.tup_inv
    have := takes_rep hn cs (by simpa [AV.hb] using h) k
    exact .tup cs us this.1 this.2
  | .fn f cs, u, h, r => by
    obtain ⟨us, rfl, k⟩ := r.fn_inv
    have := takes_rep hn cs (by simpa [AV.hb] using h) k
    exact .fn f cs us this.1 this.2
  | .ifc t x, u, h, r => by
    obtain ⟨v, rfl, k⟩ := r.ifc_inv
    exact .ifc t x v (take_rep hn x (by simpa [AV.hb] using h) k)
theorem takes_rep {n : Nat} (hn : n ≤ H.length) : (cs : List AV) → ∀ {us : List Value}, AV.hbs n cs = true → Cs (Rep S H pl) cs us → Cs (Rep S (H.take n) pl) cs us
  | [], us, _, k => by rw [k.nil_inv]; exact Cs.nil
  | x :: cs, us, h, k => by
    obtain ⟨u, us', rfl, hx, kc⟩ := k.tail
    simp [AV.hbs] at h
    exact Cs.cons (take_rep hn x h.1 hx) (takes_rep hn cs h.2 kc)
end

theorem hbs_mem {n : Nat} : ∀ {cs : List AV}, AV.hbs n cs = true → ∀ x ∈ cs, AV.hb n x = true
  | [], _, x, h => by cases h
  | y :: cs, h, x, hx => by
    simp [AV.hbs] at h
    rcases List.mem_cons.1 hx with rfl | hx
    · exact h.1
    · exact hbs_mem h.2 x hx

theorem WRel.take (h : WRel G B w0 S H pl w) {n : Nat} (hn : n ≤ H.length) (hb : (H.take n).all (Blk.hb n) = true) : WRel G B w0 S (H.take n) pl w := by
  have hget : ∀ (k : Nat) x, (H.take n)[k]? = some x → H[k]? = some x := fun k x e => by
    rw [List.getElem?_take] at e
    split at e
    · exact e
    · cases e
  have hall : ∀ (k : Nat) x, (H.take n)[k]? = some x → x.hb n = true := fun k x e => List.all_eq_true.1 hb _ (List.mem_of_getElem? e)
  have hlive : ∀ k b, live (H.take n) pl k b → live H pl k b := fun k b ⟨⟨x, hx, hl⟩, c⟩ => ⟨⟨x, hget k x hx, hl⟩, c⟩
  refine ⟨⟨fun k cs e => ?_, fun k e sz ver bv es q => ?_, fun k k' b l l' => h.h.apart k k' b (hlive k b l) (hlive k' b l'), fun a u e k l => h.h.sep a u e k (hlive k _ l)⟩, h.imm, h.below, h.base, h.g⟩
  · obtain ⟨b, c, us, t, h1, h2, h3, h4, h5⟩ := h.h.var k cs (hget k _ e)
    exact ⟨b, c, us, t, h1, h2, h3, takes_rep hn cs (by simpa [Blk.hb] using hall k _ e) h4, h5⟩
  · obtain ⟨h1, h2, h3, h4, xs, h5, h6, h7⟩ := h.h.grow k e sz ver bv es (hget k _ q)
    refine ⟨h1, h2, h3, h4, xs, h5, ⟨h6.1, fun i x u hx hu => ?_⟩, h7⟩
    obtain ⟨c, hc, hxc⟩ := List.mem_flatten.1 (List.mem_of_getElem? hx)
    have hr := h6.2 i x u hx hu
    have := hall k _ q
    simp only [Blk.hb, Bool.or_eq_true] at this
    rcases this with hbv | hes
    · exact .val _ _ (hb_val x (hbs_mem (h4 hbv c hc) x hxc) hr)
    · exact take_rep hn x (hbs_mem (List.all_eq_true.1 hes c hc) x hxc) hr

theorem renG_get (base : Nat) (H0 : List Blk) : ∀ (H : List Blk) (k j : Nat), (renG base H0 k H)[j]? = (H[j]?).map (Blk.ren base H0 (k + j))
  | [], k, j => by simp [renG]
  | b :: r, k, 0 => by simp [renG]
  | b :: r, k, j + 1 => by simp only [renG, List.getElem?_cons_succ]; rw [renG_get base H0 r (k + 1) j, show k + 1 + j = k + (j + 1) by omega]
theorem renG_length (base : Nat) (H0 : List Blk) : ∀ (H : List Blk) (k : Nat), (renG base H0 k H).length = H.length
  | [], k => rfl
  | b :: r, k => by simp [renG, renG_length base H0 r (k + 1)]
theorem renH_grow {base k : Nat} {e sz v : Nat} {bv : Bool} {es : List (List AV)} (h : (renG base H 0 H)[k]? = some (.grow e sz v bv es)) : ∃ v0 es0, H[k]? = some (.grow e sz v0 bv es0) ∧ v = (if k < base then v0 else 0) ∧ es = (if bv then es0 else es0.map (AV.rens base H)) := by
  rw [renG_get, Nat.zero_add] at h
  cases hk : H[k]? with
  | none => simp [hk] at h
  | some x =>
    cases x <;> simp [hk, Blk.ren] at h
    obtain ⟨rfl, rfl, rfl, rfl, rfl⟩ := h
    exact ⟨_, _, rfl, rfl, rfl⟩
theorem ren_len {bv : Bool} {base : Nat} {es : List (List AV)} : (if bv = true then es else es.map (AV.rens base H)).length = es.length := by cases bv <;> simp

mutual
theorem ren_rep {base : Nat} : (x : AV) → ∀ {u : Value}, Rep S H pl x u → Rep S (renG base H 0 H) pl (x.ren base H) u
  | .any, u, r => .val _ _ (.any u)
  | .v x, u, r => by rw [r.v_inv]; exact .val _ _ (.v x)
  | .lst _ _ _ _, u, r => by cases r; exact .val _ _ (by assumption)
  | .z _ _, u, r => by cases r; exact .val _ _ (by assumption)
  | .ept _, u, r => by cases r; exact .val _ _ (by assumption)
  | .own id ver, u, r => by
    cases r with
    | val _ _ r => cases r
    | own _ _ _ hi h1 k =>
      simp only [AV.ren]
      split
      · rename_i hb
        refine .own _ _ _ (by rw [renG_length]; exact hi) h1 fun e sz v bv es q => ?_
        obtain ⟨v0, es0, hq, rfl, rfl⟩ := renH_grow q
        rw [if_pos hb, ren_len]
        exact k _ _ _ _ _ hq
      · rename_i hb
        split
        · rename_i e0 sz0 v0 bv0 es0 hH
          split
          · rename_i hv
            subst hv
            refine .own _ _ _ (by rw [renG_length]; exact hi) h1 fun e sz v bv es q => ?_
            obtain ⟨v1, es1, hq, rfl, rfl⟩ := renH_grow q
            rw [hH] at hq
            cases hq
            rw [if_neg hb, ren_len]
            exact ⟨Nat.le_refl _, fun _ => (k _ _ _ _ _ hH).2 rfl⟩
          · exact .val _ _ (.any u)
        · exact .val _ _ (.any u)
  | .gpt id ver i off, u, r => by
    cases r with
    | val _ _ r => cases r
    | gpt _ _ _ _ _ hi h1 k =>
      simp only [AV.ren]
      split
      · rename_i hb
        refine .gpt _ _ _ _ _ (by rw [renG_length]; exact hi) h1 fun e sz v bv es q => ?_
        obtain ⟨v0, es0, hq, rfl, rfl⟩ := renH_grow q
        rw [if_pos hb]
        exact k _ _ _ _ _ hq
      · rename_i hb
        split
        · rename_i e0 sz0 v0 bv0 es0 hH
          split
          · rename_i hv
            subst hv
            refine .gpt _ _ _ _ _ (by rw [renG_length]; exact hi) h1 fun e sz v bv es q => ?_
            obtain ⟨v1, es1, hq, rfl, rfl⟩ := renH_grow q
            rw [hH] at hq
            cases hq
            rw [if_neg hb]
            exact ⟨Nat.le_refl _, fun _ => (k _ _ _ _ _ hH).2 rfl⟩
          · exact .val _ _ (.any u)
        · exact .val _ _ (.any u)
  | .ptr id off, u, r => by
    cases r with
    | val _ _ r => cases r
    | ptr _ _ _ hi h1 k =>
      refine .ptr _ _ _ (by rw [renG_length]; exact hi) h1 fun cs q => ?_
      rw [renG_get, Nat.zero_add] at q
      cases hk : H[id]? with
      | none => simp [hk] at q
      | some x =>
        cases x <;> simp [hk, Blk.ren] at q
        exact k _ hk
  | .agg cs, u, r => by
    obtain ⟨us, rfl, k⟩ := r.agg_inv
    have := rens_rep (base := base) cs k
    exact .agg _ us this.1 this.2
  | .tup cs, u, r => by
    obtain ⟨us, rfl, k⟩ := r.tup_inv
    have := rens_rep (base := base) cs k
    exact .tup _ us this.1 this.2
  | .fn f cs, u, r => by
    obtain ⟨us, rfl, k⟩ := r.fn_inv
    have := rens_rep (base := base) cs k
    exact .fn f _ us this.1 this.2
  | .ifc t x, u, r => by
    obtain ⟨v, rfl, k⟩ := r.ifc_inv
    exact .ifc t _ v (ren_rep x k)
theorem rens_rep {base : Nat} : (cs : List AV) → ∀ {us : List Value}, Cs (Rep S H pl) cs us → Cs (Rep S (renG base H 0 H) pl) (AV.rens base H cs) us
  | [], us, k => by rw [k.nil_inv]; exact Cs.nil
  | x :: cs, us, k => by
    obtain ⟨u, us', rfl, hx, kc⟩ := k.tail
    exact Cs.cons (ren_rep x hx) (rens_rep cs kc)
end
theorem rens_length (base : Nat) : ∀ cs : List AV, (AV.rens base H cs).length = cs.length
  | [] => rfl
  | x :: cs => by simp [AV.rens, rens_length base cs]
theorem rens_append (base : Nat) : ∀ cs ds : List AV, AV.rens base H (cs ++ ds) = AV.rens base H cs ++ AV.rens base H ds
  | [], ds => rfl
  | x :: cs, ds => by simp [AV.rens, rens_append base cs ds]
theorem rens_flatten (base : Nat) : ∀ es : List (List AV), (es.map (AV.rens base H)).flatten = AV.rens base H es.flatten
  | [] => rfl
  | c :: es => by simp [rens_append, rens_flatten base es]

theorem WRel.ren (h : WRel G B w0 S H pl w) (base : Nat) : WRel G B w0 S (renG base H 0 H) pl w := by
  have hget : ∀ (k : Nat) x, (renG base H 0 H)[k]? = some x → ∃ y, H[k]? = some y ∧ x = y.ren base H k := fun k x e => by
    rw [renG_get, Nat.zero_add] at e
    cases hk : H[k]? with
    | none => simp [hk] at e
    | some y => simp [hk] at e; exact ⟨y, rfl, e.symm⟩
  have hlive : ∀ k b, live (renG base H 0 H) pl k b → live H pl k b := fun k b ⟨⟨x, hx, hl⟩, c⟩ => by
    obtain ⟨y, hy, rfl⟩ := hget k x hx
    exact ⟨⟨y, hy, by cases y <;> simp_all [Blk.ren, Blk.lives]⟩, c⟩
  refine ⟨⟨fun k cs e => ?_, fun k e sz ver bv es q => ?_, fun k k' b l l' => h.h.apart k k' b (hlive k b l) (hlive k' b l'), fun a u e k l => h.h.sep a u e k (hlive k _ l)⟩, h.imm, h.below, h.base, h.g⟩
  · obtain ⟨y, hy, hyx⟩ := hget k _ e
    cases y <;> simp [Blk.ren] at hyx
    subst hyx
    obtain ⟨b, c, us, t, h1, h2, h3, h4, h5⟩ := h.h.var k _ hy
    exact ⟨b, c, us, t, h1, h2, h3, rens_rep _ h4, h5⟩
  · obtain ⟨v0, es0, hq, rfl, rfl⟩ := renH_grow q
    obtain ⟨h1, h2, h3, h4, xs, h5, h6, h7⟩ := h.h.grow k _ _ _ _ _ hq
    cases bv with
    | true =>
      rw [if_pos (rfl : true = true)]
      refine ⟨h1, h2, h3, h4, xs, h5, ⟨h6.1, fun i x u hx hu => ?_⟩, h7⟩
      obtain ⟨c, hc, hxc⟩ := List.mem_flatten.1 (List.mem_of_getElem? hx)
      exact .val _ _ (hb_val x (hbs_mem (h4 rfl c hc) x hxc) (h6.2 i x u hx hu))
    | false =>
      rw [if_neg (by decide : ¬ (false = true))]
      refine ⟨h1, fun c hcm => ?_, (fun hp => by simp [h3 hp]), (fun hx => absurd hx (by decide)), xs, by simpa using h5, by rw [rens_flatten]; exact rens_rep _ h6, h7⟩
      obtain ⟨c0, hd, rfl⟩ := List.mem_map.1 hcm
      rw [rens_length]
      exact h2 c0 hd

/-- How own memory may have gone on, of the first n blocks. -/
structure ExtN (n B : Nat) (S : Sto) (H : List Blk) (pl : Pl) (S' : Sto) (H' : List Blk) (pl' : Pl) : Prop where
  new : ∀ a u, S' a = some u → S a = some u ∨ B ≤ a.block
  S : S.le S'
  len : n ≤ H'.length
  var : ∀ (k : Nat) cs', k < n → H'[k]? = some (.var cs') → ∃ cs, H[k]? = some (.var cs) ∧ pl' k = pl k
  grow : ∀ (k : Nat) e sz ver bv es', k < n → H'[k]? = some (.grow e sz ver bv es') → ∃ e0 ver0 bv0 es, H[k]? = some (.grow e0 sz ver0 bv0 es) ∧ ver0 ≤ ver ∧ (ver = ver0 → es'.length = es.length ∧ pl' k = pl k)
theorem Ext.toN {S' : Sto} {H' : List Blk} {pl' : Pl} (h : Ext B S H pl S' H' pl') {n : Nat} (hn : n ≤ H.length) : ExtN n B S H pl S' H' pl' :=
  ⟨h.new, h.S, Nat.le_trans hn h.len, fun k cs hk => h.var k cs (by omega), fun k e sz v bv es hk => h.grow k e sz v bv es (by omega)⟩
theorem ExtN.full {S' : Sto} {H' : List Blk} {pl' : Pl} (h : ExtN H.length B S H pl S' H' pl') : Ext B S H pl S' H' pl' := ⟨h.new, h.S, h.len, h.var, h.grow⟩
theorem ExtN.refl {n : Nat} (hn : n ≤ H.length) : ExtN n B S H pl S H pl := (Ext.refl S H pl).toN hn
theorem ExtN.trans {n : Nat} {S1 S2 : Sto} {H1 H2 : List Blk} {pl1 pl2 : Pl} (h : ExtN n B S H pl S1 H1 pl1) (k : ExtN n B S1 H1 pl1 S2 H2 pl2) : ExtN n B S H pl S2 H2 pl2 := by
  refine ⟨fun a u e => (k.new a u e).elim (fun e => h.new a u e) .inr, Sto.le_trans h.S k.S, k.len, fun i cs hi e => ?_, fun i e sz ver bv es hi q => ?_⟩
  · obtain ⟨cs1, e1, p1⟩ := k.var i cs hi e
    obtain ⟨cs0, e0, p0⟩ := h.var i cs1 hi e1
    exact ⟨cs0, e0, p1.trans p0⟩
  · obtain ⟨x1, v1, b1, es1, e1, g1, k1⟩ := k.grow i e sz ver bv es hi q
    obtain ⟨x0, v0, b0, es0, e0, g0, k0⟩ := h.grow i _ _ _ _ _ hi e1
    refine ⟨x0, v0, b0, es0, e0, Nat.le_trans g0 g1, fun hv => ?_⟩
    have a1 := k1 (by omega)
    have a0 := k0 (by omega)
    exact ⟨a1.1.trans a0.1, a1.2.trans a0.2⟩

theorem clean0_sound {S0 : Sto} {H0 : List Blk} {pl0 : Pl} {s : St} {a : Act} {n : Nat} (hn : s.base ≤ n) (hnl : n ≤ s.H.length) (hE : ExtN s.base B S0 H0 pl0 S s.H pl) (ht : TRel S s.H pl s.tmps a) (h : WRel G B w0 S s.H pl w) :
    ExtN s.base B S0 H0 pl0 S (clean0 n s).H pl ∧ TRel S (clean0 n s).H pl (clean0 n s).tmps a ∧ WRel G B w0 S (clean0 n s).H pl w ∧ (clean0 n s).base = s.base ∧ s.base ≤ (clean0 n s).H.length := by
  unfold clean0
  split
  · rename_i hb
    have hget : ∀ (k : Nat) x, k < s.base → (renG s.base (s.H.take n) 0 (s.H.take n))[k]? = some x → ∃ y, s.H[k]? = some y ∧ x = y.ren s.base (s.H.take n) k := fun k x hk e => by
      rw [renG_get, Nat.zero_add, List.getElem?_take, if_pos (by omega)] at e
      cases hy : s.H[k]? with
      | none => simp [hy] at e
      | some y => simp [hy] at e; exact ⟨y, rfl, e.symm⟩
    have hw := (h.take hnl hb).ren s.base
    refine ⟨⟨hE.new, hE.S, by rw [renG_length]; simp; omega, fun k cs hk e => ?_, fun k e sz ver bv es hk q => ?_⟩, ⟨ht.1, by simp [ht.2.1], fun i x u hx hu => ?_⟩, hw, rfl, by rw [renG_length]; simp; omega⟩
    · obtain ⟨y, hy, hyx⟩ := hget k _ hk e
      cases y <;> simp [Blk.ren] at hyx
      exact hE.var k _ hk hy
    · obtain ⟨y, hy, hyx⟩ := hget k _ hk q
      cases y <;> simp [Blk.ren] at hyx
      obtain ⟨rfl, rfl, rfl, rfl, rfl⟩ := hyx
      obtain ⟨e0, v0, bv0, es0, h1, h2, h3⟩ := hE.grow k _ _ _ _ _ hk hy
      refine ⟨e0, v0, bv0, es0, h1, by rw [if_pos hk]; exact h2, fun hv => ?_⟩
      rw [if_pos hk] at hv
      obtain ⟨h4, h5⟩ := h3 hv
      exact ⟨by rw [ren_len]; exact h4, h5⟩
    · simp only [List.getElem?_map] at hx
      cases hy : s.tmps[i]? with
      | none => simp [hy] at hx
      | some y =>
        simp [hy] at hx
        subst hx
        split
        · rename_i hyb
          exact ren_rep y (take_rep hnl y hyb (ht.2.2 i y u hy hu))
        · exact .val _ _ (.any u)
  · exact ⟨hE, ht, h, rfl, by omega⟩

theorem clean_sound {S0 : Sto} {H0 : List Blk} {pl0 : Pl} {s : St} {a : Act} {n : Nat} (hn : s.base ≤ n) (hl : s.base ≤ s.H.length) (hE : ExtN s.base B S0 H0 pl0 S s.H pl) (ht : TRel S s.H pl s.tmps a) (h : WRel G B w0 S s.H pl w) :
    ExtN s.base B S0 H0 pl0 S (clean n s).H pl ∧ TRel S (clean n s).H pl (clean n s).tmps a ∧ WRel G B w0 S (clean n s).H pl w ∧ (clean n s).base = s.base ∧ s.base ≤ (clean n s).H.length :=
  clean0_sound (Nat.le_min.2 ⟨hn, hl⟩) (Nat.min_le_right _ _) hE ht h

/-- What is owed behind code. -/
def PostN (P : Program) (G : World → Prop) (n B : Nat) (w0 : World) (S : Sto) (H : List Blk) (pl : Pl) (s : St) (K : Act → World → Prop) : Prop :=
  s.base = n → n ≤ s.H.length → ∀ a S' pl' w', ExtN n B S H pl S' s.H pl' → WRel G B w0 S' s.H pl' w' → TRel S' s.H pl' s.tmps a → K a w'

def Ex.to : Ex → Exit
  | .norm => .normal
  | .exit id => .exit id
  | .ret => .ret


def resM (g : Nat → Value) (r : ResultVar) : Sem Value :=
  match r with
  | .tmp t => pure (g t)
  | .cell ad t => do loadVar t (← asAddr (g ad))
theorem results_sound (hK : CtxOk P C G) {tmps : List AV} {g : Nat → Value} (ht : ∀ t, Rep S H pl (tmps.getD t .any) (g t)) (h : WRel G B w0 S H pl w) : ∀ (rs : List ResultVar) (xs : List AV), resA C tmps H rs = some xs →
    ∃ us, (rs.mapM (resM g)).run P w = .ok us w ∧ Cs (Rep S H pl) xs us
  | [], xs, e => by
    simp only [resA, Option.some.injEq] at e
    subst e
    exact ⟨[], by simp, Cs.nil⟩
  | .tmp t :: rs, xs, e => by
    simp only [resA] at e
    cases hr : resA C tmps H rs with
    | none => rw [hr] at e; cases e
    | some ys =>
      rw [hr] at e
      simp only [Option.some.injEq] at e
      subst e
      obtain ⟨us, h1, h2⟩ := results_sound hK ht h rs ys hr
      exact ⟨g t :: us, by simp [List.mapM_cons, Sem.run_bind, h1, resM], Cs.cons (ht t) h2⟩
  | .cell ad t :: rs, xs, e => by
    simp only [resA] at e
    cases hx : loadA C t (tmps.getD ad .any) H with
    | none => rw [hx] at e; cases e
    | some x =>
      cases hr : resA C tmps H rs with
      | none => rw [hx, hr] at e; cases e
      | some ys =>
        rw [hx, hr] at e
        simp only [Option.some.injEq] at e
        subst e
        obtain ⟨us, h1, h2⟩ := results_sound hK ht h rs ys hr
        obtain ⟨r, hl, hrr⟩ := load_sound hK.td h (ht ad) hx
        have hld : ∃ p, g ad = .pointer (some p) ∧ (loadVar t p).run P w = .ok r w := by
          generalize g ad = u at hl
          unfold Instr.loadAt Instr.sureAddr at hl
          split at hl
          · rename_i p
            exact ⟨p, rfl, by simpa [Sem.run_bind] using hl⟩
          · simp [Sem.run_bind, stuck, Sem.run, Result.andThen] at hl
        obtain ⟨p, hp, hlp⟩ := hld
        exact ⟨r :: us, by simp [List.mapM_cons, Sem.run_bind, h1, hp, hlp, asAddr, resM], Cs.cons hrr h2⟩

def resOne : List AV → AV
  | [x] => x
  | xs => .tup xs
theorem results_run (hK : CtxOk P C G) {fn : Func} {tmps : List AV} {a : Act} (ht : TRel S H pl tmps a) (h : WRel G B w0 S H pl w) {xs : List AV} (e : resA C tmps H fn.results.toList = some xs) :
    ∃ u, (results fn a.tmps).run P w = .ok u w ∧ Rep S H pl (resOne xs) u := by
  have hm : (results fn a.tmps) = (do let vs ← fn.results.mapM (resM fun t => a.tmps.getD t undef); pure (if h : vs.size = 1 then vs[0] else .tuple vs)) := rfl
  obtain ⟨g, hg⟩ : ∃ g : Nat → Value, g = fun t => a.tmps.getD t undef := ⟨_, rfl⟩
  rw [← hg] at hm
  obtain ⟨us, h1, h2⟩ := results_sound (g := g) hK (fun t => by rw [hg]; exact ht.ev (.tmp t)) h _ xs e
  rw [hm, Array.mapM_eq_mapM_toList]
  refine ⟨if h : us.toArray.size = 1 then us.toArray[0] else .tuple us.toArray, by simp [Sem.run_bind, h1], ?_⟩
  clear e hm h1
  match xs, h2 with
  | [], h2 =>
    obtain rfl := h2.nil_inv
    exact .tup _ [] h2.1 h2.2
  | [x], h2 =>
    obtain ⟨u, us', rfl, hx, hc⟩ := h2.tail
    obtain rfl := hc.nil_inv
    simpa [resOne] using hx
  | x :: y :: r, h2 =>
    rw [dif_neg (by simp [h2.1])]
    exact .tup _ us h2.1 h2.2

theorem evOps_base {call : Nat → List AV → List Blk → Option (AV × List Blk)} {ops : Array Oper} : ∀ (l : List Oper) (s s' : St), evOps C P call ops l s = some s' → s'.base = s.base
  | [], s, s', e => by simp only [evOps, Option.some.injEq] at e; rw [e]
  | o :: l, s, s', e => by
    simp only [evOps] at e
    split at e
    · split at e
      · exact (evOps_base l _ s' e).trans rfl
      · cases e
    · exact (evOps_base l _ s' e).trans rfl
    · cases e
theorem evDraw_base {call : Nat → List AV → List Blk → Option (AV × List Blk)} {ops : Array Oper} {s s' : St} (e : evDraw C P call ops s = some s') : s'.base = s.base := by
  unfold evDraw at e
  split at e
  · split at e
    · obtain rfl := Option.some.inj e; rfl
    · split at e
      · exact (evOps_base _ _ s' e).trans rfl
      · cases e
  · split at e
    · split at e
      · obtain rfl := Option.some.inj e; rfl
      · cases e
    · split at e
      · split at e
        · split at e
          · exact (evOps_base _ _ s' e).trans rfl
          · cases e
        · cases e
      · cases e

theorem TRel.wipe {S : Sto} {H : List Blk} {pl : Pl} {a : Act} : ∀ (ks : List Nat) {tmps : List AV}, TRel S H pl tmps a → TRel S H pl (wipeT ks tmps) a
  | [], tmps, h => h
  | k :: ks, tmps, h => TRel.wipe ks ⟨h.1, by rw [List.length_set]; exact h.2.1, fun i x u hx hu => by
      rw [List.getElem?_set] at hx
      split at hx
      · split at hx
        · obtain rfl := Option.some.inj hx
          exact .val _ _ (.any _)
        · cases hx
      · exact h.2.2 i x u hx hu⟩

theorem cut0_sound {B : Nat} {w0 w : World} {S S0 : Sto} {H0 : List Blk} {pl pl0 : Pl} {s : St} {a : Act} {n : Nat} (hn : s.base ≤ n) (hnl : n ≤ s.H.length) (hE : ExtN s.base B S0 H0 pl0 S s.H pl) (ht : TRel S s.H pl s.tmps a) (h : WRel G B w0 S s.H pl w) :
    ExtN s.base B S0 H0 pl0 S (cut0 n s).H pl ∧ TRel S (cut0 n s).H pl (cut0 n s).tmps a ∧ WRel G B w0 S (cut0 n s).H pl w ∧ (cut0 n s).base = s.base ∧ s.base ≤ (cut0 n s).H.length := by
  unfold cut0
  split
  · rename_i hb
    rw [Bool.and_eq_true] at hb
    have hget : ∀ (k : Nat), k < s.base → (s.H.take n)[k]? = s.H[k]? := fun k hk => by rw [List.getElem?_take, if_pos (by omega)]
    refine ⟨⟨hE.new, hE.S, by simp; omega, fun k cs hk e => ?_, fun k e sz ver bv es hk q => ?_⟩, ⟨ht.1, ht.2.1, fun i x u hx hu => ?_⟩, h.take hnl hb.2, rfl, by simp; omega⟩
    · rw [hget k hk] at e; exact hE.var k _ hk e
    · rw [hget k hk] at q; exact hE.grow k _ _ _ _ _ hk q
    · exact take_rep hnl x (List.all_eq_true.1 hb.1 x (List.mem_of_getElem? hx)) (ht.2.2 i x u hx hu)
  · exact ⟨hE, ht, h, rfl, by omega⟩
theorem leave_sound {B : Nat} {w0 w : World} {S S0 : Sto} {H0 : List Blk} {pl pl0 : Pl} {c : Code} {s : St} {a : Act} {n : Nat} (hn : s.base ≤ n) (hl : s.base ≤ s.H.length) (hE : ExtN s.base B S0 H0 pl0 S s.H pl) (ht : TRel S s.H pl s.tmps a) (h : WRel G B w0 S s.H pl w) :
    ExtN s.base B S0 H0 pl0 S (leave C.kl c n s).H pl ∧ TRel S (leave C.kl c n s).H pl (leave C.kl c n s).tmps a ∧ WRel G B w0 S (leave C.kl c n s).H pl w ∧ (leave C.kl c n s).base = s.base ∧ s.base ≤ (leave C.kl c n s).H.length :=
  cut0_sound (s := ⟨wipeT (killsX C.kl c) s.tmps, s.H, s.base⟩) (Nat.le_min.2 ⟨hn, hl⟩) (Nat.min_le_right _ _) hE (TRel.wipe _ ht) h

theorem evCode_both (hM : P.follows .mixedOrders = true) (hG : ∀ w', Below B w0 w' → G w') (hK : CtxOk P C G) : ∀ n : Nat,
    (∀ (c : Code) (s : St) (e : Ex) (s' : St) (S : Sto) (pl : Pl) (a : Act) (w : World) (Q : Exit → Act → World → Prop), evCode C P n c s = some (e, s') → s.base ≤ s.H.length → TRel S s.H pl s.tmps a → WRel G B w0 S s.H pl w → PostN P G s.base B w0 S s.H pl s' (Q e.to) → c.wp P Q a w) ∧
    (∀ (c : Code) (s : St) (e : Ex) (s' : St) (S0 S : Sto) (H0 : List Blk) (pl0 pl : Pl) (a : Act) (w : World) (Q : Exit → Act → World → Prop), evCode C P n (.loop c) s = some (e, s') → s.base ≤ s.H.length → TRel S s.H pl s.tmps a → WRel G B w0 S s.H pl w → ExtN s.base B S0 H0 pl0 S s.H pl → PostN P G s.base B w0 S0 H0 pl0 s' (Q e.to) → Code.rounds P c Q n a w) ∧
    CallOk P C G B w0 (evFn C (evCode C P n)) := by
  intro n
  induction n with
  | zero =>
    refine ⟨fun c s e s' S pl a w Q h => by simp [evCode] at h, fun c s e s' S0 S H0 pl0 pl a w Q h => by simp [evCode] at h, fun n args H r H' h => ?_⟩
    unfold evFn at h
    split at h
    · cases h
    · split at h
      · cases h
      · simp [evCode] at h
  | succ n ih =>
    obtain ⟨ihA, ihB, ihC⟩ := ih
    have hB : ∀ (c : Code) (s : St) (e : Ex) (s' : St) (S0 S : Sto) (H0 : List Blk) (pl0 pl : Pl) (a : Act) (w : World) (Q : Exit → Act → World → Prop), evCode C P (n + 1) (.loop c) s = some (e, s') → s.base ≤ s.H.length → TRel S s.H pl s.tmps a → WRel G B w0 S s.H pl w → ExtN s.base B S0 H0 pl0 S s.H pl → PostN P G s.base B w0 S0 H0 pl0 s' (Q e.to) → Code.rounds P c Q (n + 1) a w := by
      intro c s e s' S0 S H0 pl0 pl a w Q h hbs ht hw hE hp
      simp only [evCode] at h
      rw [rounds_succ]
      obtain ⟨hE', ht', hw', hbc, hlc⟩ := clean_sound (n := s.H.length) (s := s) hbs hbs hE ht hw
      cases hb : evCode C P n c (Av.head C.kl c s) with
      | none => rw [hb] at h; cases h
      | some r =>
        obtain ⟨e1, s1⟩ := r
        rw [hb] at h
        refine ihA c (Av.head C.kl c s) e1 s1 S pl a w _ hb (show (clean s.H.length s).base ≤ (clean s.H.length s).H.length by rw [hbc]; exact hlc) (TRel.wipe _ ht') hw' fun hb1 hl1 a1 S1 pl1 w1 hE1 hw1 ht1 => ?_
        have hb1 : s1.base = s.base := hb1.trans hbc
        have hl1 : s.base ≤ s1.H.length := by rw [← hbc]; exact hl1
        have hE1 : ExtN s.base B S (clean s.H.length s).H pl S1 s1.H pl1 := by rw [← hbc]; exact hE1
        have hE01 := hE'.trans hE1
        cases e1 with
        | norm =>
          obtain ⟨hE2, ht2, hw2, hb2, hl2⟩ := clean_sound (n := s.H.length) (s := s1) (by rw [hb1]; exact hbs) (by rw [hb1]; exact hl1) (by rw [hb1]; exact hE01) ht1 hw1
          rw [hb1] at hb2 hl2 hE2
          exact ihB c _ e s' S0 S1 H0 pl0 pl1 a1 w1 Q h (by rw [hb2]; exact hl2) ht2 hw2 (by rw [hb2]; exact hE2) (by rw [hb2]; exact hp)
        | exit id =>
          simp only [Option.some.injEq, Prod.mk.injEq] at h
          obtain ⟨rfl, rfl⟩ := h
          obtain ⟨hE2, ht2, hw2, hb2, hl2⟩ := leave_sound (c := c) (n := s.H.length) (s := s1) (by rw [hb1]; exact hbs) (by rw [hb1]; exact hl1) (by rw [hb1]; exact hE01) ht1 hw1
          rw [hb1] at hb2 hl2 hE2
          exact hp hb2 hl2 a1 S1 pl1 w1 hE2 hw2 ht2
        | ret =>
          simp only [Option.some.injEq, Prod.mk.injEq] at h
          obtain ⟨rfl, rfl⟩ := h
          obtain ⟨hE2, ht2, hw2, hb2, hl2⟩ := leave_sound (c := c) (n := s.H.length) (s := s1) (by rw [hb1]; exact hbs) (by rw [hb1]; exact hl1) (by rw [hb1]; exact hE01) ht1 hw1
          rw [hb1] at hb2 hl2 hE2
          exact hp hb2 hl2 a1 S1 pl1 w1 hE2 hw2 ht2
    have hA : ∀ (c : Code) (s : St) (e : Ex) (s' : St) (S : Sto) (pl : Pl) (a : Act) (w : World) (Q : Exit → Act → World → Prop), evCode C P (n + 1) c s = some (e, s') → s.base ≤ s.H.length → TRel S s.H pl s.tmps a → WRel G B w0 S s.H pl w → PostN P G s.base B w0 S s.H pl s' (Q e.to) → c.wp P Q a w := by
      intro c s e s' S pl a w Q h hbs ht hw hp
      cases c with
      | skip =>
        simp only [evCode, Option.some.injEq, Prod.mk.injEq] at h
        obtain ⟨rfl, rfl⟩ := h
        exact wp_skip (hp rfl hbs a S pl w (ExtN.refl hbs) hw ht)
      | label l =>
        simp only [evCode, Option.some.injEq, Prod.mk.injEq] at h
        obtain ⟨rfl, rfl⟩ := h
        exact wp_label (hp rfl hbs a S pl w (ExtN.refl hbs) hw ht)
      | region id ops d =>
        cases d with
        | true =>
          simp only [evCode] at h
          cases hb : evDraw C P (evFn C (evCode C P n)) ops s with
          | none => rw [hb] at h; cases h
          | some s1 =>
            rw [hb] at h
            simp only [Option.some.injEq, Prod.mk.injEq] at h
            obtain ⟨rfl, rfl⟩ := h
            exact evDraw_sound hM hG hK ihC hb ht hw fun a2 S2 pl2 w2 hE2 hw2 ht2 => hp (evDraw_base hb) (Nat.le_trans hbs hE2.len) a2 S2 pl2 w2 (hE2.toN hbs) hw2 ht2
        | false =>
          simp only [evCode] at h
          cases hb : evOps C P (evFn C (evCode C P n)) ops ops.toList s with
          | none => rw [hb] at h; cases h
          | some s1 =>
            rw [hb] at h
            simp only [Option.some.injEq, Prod.mk.injEq] at h
            obtain ⟨rfl, rfl⟩ := h
            exact wp_region_list (evOps_sound hG hK ihC _ s s1 S pl a w hb ht hw fun a2 S2 pl2 w2 hE2 hw2 ht2 => hp (evOps_base _ _ _ hb) (Nat.le_trans hbs hE2.len) a2 S2 pl2 w2 (hE2.toN hbs) hw2 ht2)
      | seq x y =>
        simp only [evCode] at h
        cases hb : evCode C P n x s with
        | none => rw [hb] at h; cases h
        | some r =>
          obtain ⟨e1, s1⟩ := r
          rw [hb] at h
          refine wp_seq (ihA x s e1 s1 S pl a w _ hb hbs ht hw fun hb1 hl1 a1 S1 pl1 w1 hE1 hw1 ht1 => ?_)
          cases e1 with
          | norm => exact ihA y s1 e s' S1 pl1 a1 w1 Q h (by rw [hb1]; exact hl1) ht1 hw1 (by rw [hb1]; exact fun hb2 hl2 a2 S2 pl2 w2 hE2 hw2 ht2 => hp hb2 hl2 a2 S2 pl2 w2 (hE1.trans hE2) hw2 ht2)
          | exit id =>
            simp only [Option.some.injEq, Prod.mk.injEq] at h
            obtain ⟨rfl, rfl⟩ := h
            exact hp hb1 hl1 a1 S1 pl1 w1 hE1 hw1 ht1
          | ret =>
            simp only [Option.some.injEq, Prod.mk.injEq] at h
            obtain ⟨rfl, rfl⟩ := h
            exact hp hb1 hl1 a1 S1 pl1 w1 hE1 hw1 ht1
      | cond c x y =>
        simp only [evCode] at h
        split at h
        · rename_i t hc
          have hv := ht.ev c
          rw [hc] at hv
          refine wp_cond hv.v_inv ?_
          cases t with
          | true => exact ihA x s e s' S pl a w Q h hbs ht hw hp
          | false => exact ihA y s e s' S pl a w Q h hbs ht hw hp
        · cases h
      | block id c =>
        simp only [evCode] at h
        cases hb : evCode C P n c s with
        | none => rw [hb] at h; cases h
        | some r =>
          obtain ⟨e1, s1⟩ := r
          rw [hb] at h
          refine wp_block (ihA c s e1 s1 S pl a w _ hb hbs ht hw fun hb1 hl1 a1 S1 pl1 w1 hE1 hw1 ht1 => ?_)
          cases e1 with
          | norm =>
            simp only [Option.some.injEq, Prod.mk.injEq] at h
            obtain ⟨rfl, rfl⟩ := h
            exact hp hb1 hl1 a1 S1 pl1 w1 hE1 hw1 ht1
          | exit i =>
            simp only at h
            show Exit.inBlock id Q (.exit i) a1 w1
            unfold Exit.inBlock
            split at h
            · rename_i hi
              simp only [Option.some.injEq, Prod.mk.injEq] at h
              obtain ⟨rfl, rfl⟩ := h
              simp only [hi, if_true]
              exact hp hb1 hl1 a1 S1 pl1 w1 hE1 hw1 ht1
            · rename_i hi
              simp only [Option.some.injEq, Prod.mk.injEq] at h
              obtain ⟨rfl, rfl⟩ := h
              simp only [hi, if_false]
              exact hp hb1 hl1 a1 S1 pl1 w1 hE1 hw1 ht1
          | ret =>
            simp only [Option.some.injEq, Prod.mk.injEq] at h
            obtain ⟨rfl, rfl⟩ := h
            exact hp hb1 hl1 a1 S1 pl1 w1 hE1 hw1 ht1
      | loop c => exact wp_loop_rounds (n + 1) (hB c s e s' S S s.H pl pl a w Q h hbs ht hw (ExtN.refl hbs) hp)
      | exit id =>
        simp only [evCode, Option.some.injEq, Prod.mk.injEq] at h
        obtain ⟨rfl, rfl⟩ := h
        exact wp_exit (hp rfl hbs a S pl w (ExtN.refl hbs) hw ht)
      | ret =>
        simp only [evCode, Option.some.injEq, Prod.mk.injEq] at h
        obtain ⟨rfl, rfl⟩ := h
        exact wp_ret (hp rfl hbs a S pl w (ExtN.refl hbs) hw ht)
      | scope c =>
        simp only [evCode] at h
        refine wp_scope_straight (ihA c s e s' S pl a w _ h hbs ht hw fun hb1 hl1 a1 S1 pl1 w1 hE1 hw1 ht1 => ?_)
        have := hp hb1 hl1 a1 S1 pl1 w1 hE1 hw1 ht1
        cases e <;> exact this
      | rangeFunc f ps as b => simp [evCode] at h
      | goto l => simp [evCode] at h
      | refuse y => simp [evCode] at h
    refine ⟨hA, hB, fun m args H r H' h => ?_⟩
    unfold evFn at h
    cases hfn : C.fn m with
    | none => rw [hfn] at h; cases h
    | some fn =>
      rw [hfn] at h
      refine ⟨⟨fn, rfl⟩, fun S pl w vs hvs hw => ?_⟩
      obtain ⟨hf, hb, _⟩ := hK.fn m fn hfn
      cases hbd : fn.body with
      | none => rw [hbd] at hb; cases hb
      | some c =>
        simp only [hbd] at h
        refine calls_of_wp hf hbd ?_
        have hT : TRel S H pl (args ++ List.replicate (fn.ntmps - args.length) .any) { tmps := vs.toArray ++ Array.replicate (fn.ntmps - vs.toArray.size) undef, defers := [] } := by
          refine ⟨rfl, by simp [hvs.1], fun i x u hx hu => ?_⟩
          by_cases hi : i < args.length
          · rw [List.getElem?_append_left hi] at hx
            rw [Array.getElem?_append_left (by simpa [hvs.1] using hi)] at hu
            exact hvs.2 i x u hx (by simpa using hu)
          · rw [List.getElem?_append_right (by omega), List.getElem?_replicate] at hx
            split at hx
            · obtain rfl := Option.some.inj hx
              exact .val _ _ (.any _)
            · cases hx
        cases hr : evCode C P (n + 1) c ⟨args ++ List.replicate (fn.ntmps - args.length) .any, H, H.length⟩ with
        | none => rw [hr] at h; cases h
        | some q =>
          obtain ⟨e, s⟩ := q
          rw [hr] at h
          refine hA c ⟨_, H, H.length⟩ e s S pl _ w _ hr (Nat.le_refl _) hT hw fun _ _ a1 S1 pl1 w1 hE1 hw1 ht1 => ?_
          have hE1 := hE1.full
          have key : (match resA C s.tmps s.H fn.results.toList with | some [x] => some (x, s.H) | some xs => some (.tup xs, s.H) | none => none) = some (r, H') → a1.defers = [] ∧ ∃ v, (results fn a1.tmps).run P w1 = .ok v w1 ∧ ∃ u S' pl', Ending.returned v = .returned u ∧ Ext B S H pl S' H' pl' ∧ WRel G B w0 S' H' pl' w1 ∧ Rep S' H' pl' r u := by
            intro hq
            cases hres : resA C s.tmps s.H fn.results.toList with
            | none => rw [hres] at hq; cases hq
            | some xs =>
              rw [hres] at hq
              have hone : resOne xs = r ∧ s.H = H' := by
                match xs, hq with
                | [], hq => simp only [Option.some.injEq, Prod.mk.injEq] at hq; exact hq
                | [x], hq => simp only [Option.some.injEq, Prod.mk.injEq] at hq; exact hq
                | x :: y :: t, hq => simp only [Option.some.injEq, Prod.mk.injEq] at hq; exact hq
              obtain ⟨rfl, rfl⟩ := hone
              obtain ⟨u, hu, hR⟩ := results_run hK ht1 hw1 hres
              exact ⟨ht1.1, u, hu, u, S1, pl1, rfl, hE1, hw1, hR⟩
          cases e with
          | norm => exact key h
          | ret => exact key h
          | exit id => cases h

/-- A function by the interpreter is a summary of it. -/
theorem models_of (hM : P.follows .mixedOrders = true) (hK : CtxOk P C G) (hG : ∀ w w', G w → Below w.heap.size w w' → G w') (n f : Nat) : Models P G f fun args => evFn C (evCode C P n) f args [] := by
  intro S w as vs r Hr hvs himm hg e
  have hw : WRel G w.heap.size w S [] (fun _ => none) w := by
    refine ⟨⟨fun k cs e => by simp at e, fun k e sz ver bv es q => by simp at q, fun k k' b l => by obtain ⟨⟨x, hx, _⟩, _⟩ := l; simp at hx, fun a u e k l => by obtain ⟨⟨x, hx, _⟩, _⟩ := l; simp at hx⟩, himm, Below.refl _ _, Nat.le_refl _, hg⟩
  obtain ⟨_, hc⟩ := (evCode_both (B := w.heap.size) (w0 := w) hM (fun w' hb => hG w w' hg hb) hK n).2.2 f as [] r Hr e
  refine (hc S _ w vs (hvs.mono fun x u h => .val _ _ h) hw).mono ?_
  rintro e w' ⟨u, S', pl', rfl, hE, hW, hR⟩
  exact ⟨u, S', pl', rfl, hE.S, fun a v hv hb => (hE.new a v hv).elim id fun hb' => absurd hb (Nat.not_lt.2 hb'), hW, hR⟩

theorem info_of {t : TypeId} {z : Option Value} {s b : Nat} (h : (P.info? t).map (fun i => (i.zero, i.size, i.bytes)) = some (z, s, b)) : ∃ i, P.info? t = some i ∧ i.zero = z ∧ i.size = s ∧ i.bytes = b := by
  cases hi : P.info? t with
  | none => simp [hi] at h
  | some i => simp [hi] at h; exact ⟨i, rfl, h.1, h.2.1, h.2.2⟩
/-- One row of the table of types. -/
def TdT (P : Program) (t : Nat) : TD → Prop
  | .one z => (∃ d, P.underlying t = some d ∧ d.isRow = false ∧ oneKind z d) ∧ ∃ i, P.info? t = some i ∧ i.size = 1 ∧ i.zero = some z ∧ z.oneCell' = true ∧ z.cells = #[z]
  | .agg sz fs zs => ∃ flds i, P.underlying t = some (.struct flds) ∧ P.info? t = some i ∧ i.size = sz ∧ i.zero = some (.agg zs.toArray) ∧ zs.length = sz ∧ 0 < sz ∧ (∀ z ∈ zs, z.oneCell' = true) ∧
    flds.toList.length = fs.length ∧ ∀ (j : Nat) f o s (g : Bool), flds[j]? = some f → fs[j]? = some (o, s, g) → f.offset = o ∧ 0 < s ∧ o + s ≤ sz ∧ (∃ i', P.info? f.type = some i' ∧ i'.size = s) ∧
      ∃ d, P.underlying f.type = some d ∧ d.isRow = g ∧ (g = false → s = 1)
  | .sl e sz bytes => P.underlying t = some (.slice e) ∧ 0 < sz ∧ (∃ i z, P.info? e = some i ∧ i.size = sz ∧ i.bytes = bytes ∧ i.zero = some z ∧ z.cells.size = sz) ∧ ∃ i, P.info? t = some i ∧ i.size = 1 ∧ i.zero = some (.slice none 0 0)
  | .no => True
theorem TdOk.of {C : Ctx} (h : ∀ t, TdT P t (C.td t)) (hc : ∀ t, C.conc t = true → ∃ d, P.underlying t = some d ∧ (match d with | .interface _ => false | _ => true) = true) : TdOk P C :=
  ⟨fun t z e => by have := h t; rw [e] at this; exact this, fun t sz fs zs e => by have := h t; rw [e] at this; exact this, fun t e' sz b e => by have := h t; rw [e] at this; exact this, hc⟩
end
end Go.Proofs.YtalkodandfjkmaaDoor.Av

/- More rounds give the same answer; runs of code put together. -/
set_option linter.unusedVariables false
set_option linter.unusedSimpArgs false
namespace Go.Proofs.YtalkodandfjkmaaDoor.Av
open Go Go.RowKit
variable {P : Program} {C : Ctx}

def CallLe (f g : Nat → List AV → List Blk → Option (AV × List Blk)) : Prop := ∀ n args H r, f n args H = some r → g n args H = some r

theorem evOpE_nocall {f g : Nat → List AV → List Blk → Option (AV × List Blk)} {tmps : List AV} {H : List Blk} {o : Oper} (h : ∀ c, o.op ≠ .call c) : evOpE C f tmps H o = evOpE C g tmps H o := by
  unfold evOpE
  generalize o.op = p at *
  split <;> first | rfl | skip
  · exact absurd rfl (h _)
theorem evOpE_mono {f g : Nat → List AV → List Blk → Option (AV × List Blk)} (h : CallLe f g) {tmps : List AV} {H : List Blk} {o : Oper} {r : AV × List Blk} (e : evOpE C f tmps H o = some r) : evOpE C g tmps H o = some r := by
  cases ho : o.op with
  | call c =>
    simp only [evOpE, ho] at e ⊢
    cases hc : c.callee with
    | value x =>
      simp only [hc] at e ⊢
      cases hm : callMA C (evA tmps x) (c.args.toList.map (evA tmps)) H with
      | some q => simpa only [hm] using e
      | none =>
        simp only [hm] at e ⊢
        cases hx : evA tmps x <;> simp only [hx] at e ⊢ <;> first | exact h _ _ _ _ e | cases e
    | invoke a b => simp only [hc] at e; cases e
    | builtin b => cases b <;> first | exact e | (simp only [hc] at e ⊢; done) | (simp only [hc] at e ⊢; exact e)
  | _ => rw [evOpE_nocall (g := f) (fun c hc => by rw [ho] at hc; cases hc)]; exact e

theorem evOpE_none {f g : Nat → List AV → List Blk → Option (AV × List Blk)} {tmps : List AV} {H : List Blk} {o : Oper} {x : AV} (e : evOpE C f tmps H o = none) (q : evOpQ C P tmps H o = some x) : evOpE C g tmps H o = none := by
  cases ho : o.op with
  | call c =>
    simp only [evOpE, ho] at e ⊢
    simp only [evOpQ, ho] at q
    cases hc : c.callee with
    | value y =>
      simp only [hc] at e q ⊢
      cases hm : callMA C (evA tmps y) (c.args.toList.map (evA tmps)) H with
      | some z => simp only [hm] at e; cases e
      | none => simp only [hm] at q; cases q
    | invoke a b => simp only [hc]
    | builtin b => cases b <;> first | exact e | (simp only [hc] at e ⊢; done) | (simp only [hc] at e ⊢; exact e)
  | _ => rw [evOpE_nocall (g := f) (fun c hc => by rw [ho] at hc; cases hc)]; exact e

theorem evOp_mono {f g : Nat → List AV → List Blk → Option (AV × List Blk)} (h : CallLe f g) {tmps : List AV} {H : List Blk} {o : Oper} {r : AV × List Blk} (e : evOp C P f tmps H o = some r) : evOp C P g tmps H o = some r := by
  unfold evOp at e ⊢
  cases hE : evOpE C f tmps H o with
  | some q => rw [hE] at e; rw [evOpE_mono h hE]; exact e
  | none =>
    rw [hE] at e
    cases hQ : evOpQ C P tmps H o with
    | none => simp only [hQ] at e; cases e
    | some x => rw [evOpE_none (g := g) hE hQ]; simpa only [hQ] using e

theorem evOps_mono {f g : Nat → List AV → List Blk → Option (AV × List Blk)} (h : CallLe f g) {ops : Array Oper} : ∀ (l : List Oper) (s s' : St), evOps C P f ops l s = some s' → evOps C P g ops l s = some s'
  | [], s, s', e => e
  | o :: l, s, s', e => by
    simp only [evOps] at e ⊢
    cases hw : wantA ops s.tmps o with
    | none => simp only [hw] at e; cases e
    | some b =>
      cases b with
      | true =>
        simp only [hw] at e ⊢
        cases ho : evOp C P f s.tmps s.H o with
        | none => simp only [ho] at e; cases e
        | some q =>
          simp only [ho] at e
          rw [evOp_mono h ho]
          exact evOps_mono h l _ s' e
      | false =>
        simp only [hw] at e ⊢
        exact evOps_mono h l _ s' e

theorem evD_mono {f g : Nat → List AV → List Blk → Option (AV × List Blk)} (h : CallLe f g) {ops : Array Oper} : ∀ (l : List Oper) (k : Nat) (d d' : Ds), evD C P f ops k l d = some d' → evD C P g ops k l d = some d'
  | [], k, d, d', e => e
  | o :: l, k, d, d', e => by
    simp only [evD] at e ⊢
    cases hs : stD C P f ops (floatAt C ops.toList) (waitsF C ops.toList k o) k o d with
    | none => simp only [hs] at e; cases e
    | some q =>
      obtain ⟨x, d1⟩ := q
      have : stD C P g ops (floatAt C ops.toList) (waitsF C ops.toList k o) k o d = some (x, d1) := by
        unfold stD at hs ⊢
        split at hs
        · rename_i hw
          split at hs
          · rename_i hq
            exact hs
          · rename_i hq
            split at hs
            · rename_i y H' ho
              simp only [evOp_mono h ho]
              exact hs
            · cases hs
        · exact hs
        · cases hs
      simp only [hs] at e
      simp only [this]
      exact evD_mono h l (k + 1) d1 d' e
theorem evDraw_mono {f g : Nat → List AV → List Blk → Option (AV × List Blk)} (h : CallLe f g) {ops : Array Oper} {s s' : St} (e : evDraw C P f ops s = some s') : evDraw C P g ops s = some s' := by
  unfold evDraw at e ⊢
  split at e
  · split at e
    · exact e
    · split at e
      · exact evOps_mono h _ _ _ e
      · cases e
  · split at e
    · split at e
      · rename_i hd
        simp only [evD_mono h _ _ _ _ hd]
        exact e
      · cases e
    · split at e
      · split at e
        · split at e
          · exact evOps_mono h _ _ _ e
          · cases e
        · cases e
      · cases e

theorem evFn_mono {run run' : Code → St → Option (Ex × St)} (h : ∀ c s r, run c s = some r → run' c s = some r) : CallLe (evFn C run) (evFn C run') := by
  intro n args H r e
  unfold evFn at e ⊢
  cases hf : C.fn n with
  | none => rw [hf] at e; cases e
  | some fn =>
    simp only [hf] at e ⊢
    cases hb : fn.body with
    | none => rw [hb] at e; cases e
    | some c =>
      simp only [hb] at e ⊢
      cases hr : run c ⟨args ++ List.replicate (fn.ntmps - args.length) .any, H, H.length⟩ with
      | none => rw [hr] at e; cases e
      | some q => rw [hr] at e; rw [h _ _ _ hr]; exact e

theorem evCode_mono : ∀ (n : Nat) (c : Code) (s : St) (r : Ex × St), evCode C P n c s = some r → evCode C P (n + 1) c s = some r := by
  intro n
  induction n with
  | zero => intro c s r e; simp [evCode] at e
  | succ n ih =>
    intro c s r e
    have hcall : CallLe (evFn C (evCode C P n)) (evFn C (evCode C P (n + 1))) := evFn_mono ih
    cases c with
    | skip => simpa only [evCode] using e
    | label l => simpa only [evCode] using e
    | region id ops d =>
      cases d with
      | true =>
        rw [evCode] at e ⊢
        cases hb : evDraw C P (evFn C (evCode C P n)) ops s with
        | none => rw [hb] at e; cases e
        | some s1 => rw [hb] at e; rw [evDraw_mono hcall hb]; exact e
      | false =>
        rw [evCode] at e ⊢
        cases hb : evOps C P (evFn C (evCode C P n)) ops ops.toList s with
        | none => rw [hb] at e; cases e
        | some s1 => rw [hb] at e; rw [evOps_mono hcall _ _ _ hb]; exact e
    | seq x y =>
      rw [evCode] at e ⊢
      cases hb : evCode C P n x s with
      | none => rw [hb] at e; cases e
      | some q =>
        rw [hb] at e
        rw [ih _ _ _ hb]
        obtain ⟨e1, s1⟩ := q
        cases e1 with
        | norm => exact ih _ _ _ e
        | exit i => exact e
        | ret => exact e
    | cond c x y =>
      rw [evCode] at e ⊢
      split at e
      · rename_i t hc
        cases t with
        | true => exact ih _ _ _ e
        | false => exact ih _ _ _ e
      · cases e
    | block id c =>
      rw [evCode] at e ⊢
      cases hb : evCode C P n c s with
      | none => rw [hb] at e; cases e
      | some q => rw [hb] at e; rw [ih _ _ _ hb]; exact e
    | loop c =>
      rw [evCode] at e ⊢
      cases hb : evCode C P n c (head C.kl c s) with
      | none => rw [hb] at e; cases e
      | some q =>
        rw [hb] at e
        rw [ih _ _ _ hb]
        obtain ⟨e1, s1⟩ := q
        cases e1 with
        | norm => exact ih _ _ _ e
        | exit i => exact e
        | ret => exact e
    | exit i => simpa only [evCode] using e
    | ret => simpa only [evCode] using e
    | scope c => rw [evCode] at e ⊢; exact ih _ _ _ e
    | rangeFunc f ps as b => simp [evCode] at e
    | goto l => simp [evCode] at e
    | refuse y => simp [evCode] at e
theorem evCode_le {n m : Nat} (h : n ≤ m) {c : Code} {s : St} {r : Ex × St} (e : evCode C P n c s = some r) : evCode C P m c s = some r := by
  obtain ⟨d, rfl⟩ : ∃ d, m = n + d := ⟨m - n, by omega⟩
  induction d with
  | zero => exact e
  | succ d ih => exact evCode_mono _ _ _ _ (ih (by omega))
theorem evFn_le {n m : Nat} (h : n ≤ m) : CallLe (evFn C (evCode C P n)) (evFn C (evCode C P m)) := evFn_mono fun _ _ _ e => evCode_le h e

/-- Code comes to its end. -/
def Runs (C : Ctx) (P : Program) (c : Code) (s : St) (e : Ex) (s' : St) : Prop := ∃ n, evCode C P n c s = some (e, s')
/-- A function answers. -/
def Fn (C : Ctx) (P : Program) (f : Nat) (args : List AV) (H : List Blk) (r : AV) (H' : List Blk) : Prop := ∃ n, evFn C (evCode C P n) f args H = some (r, H')

theorem Runs.seq {x y : Code} {s s1 s' : St} {e : Ex} (h : Runs C P x s .norm s1) (k : Runs C P y s1 e s') : Runs C P (.seq x y) s e s' := by
  obtain ⟨n, h⟩ := h
  obtain ⟨m, k⟩ := k
  refine ⟨max n m + 1, ?_⟩
  rw [evCode, evCode_le (Nat.le_max_left n m) h]
  exact evCode_le (Nat.le_max_right n m) k
theorem Runs.seq_out {x y : Code} {s s' : St} {e : Ex} (h : Runs C P x s e s') (he : e ≠ .norm) : Runs C P (.seq x y) s e s' := by
  obtain ⟨n, h⟩ := h
  refine ⟨n + 1, ?_⟩
  rw [evCode, h]
  cases e <;> first | rfl | exact absurd rfl he
theorem Runs.cond {c : Operand} {x y : Code} {s s' : St} {e : Ex} {b : Bool} (hc : evA s.tmps c = .v (.bool b)) (h : Runs C P (if b then x else y) s e s') : Runs C P (.cond c x y) s e s' := by
  obtain ⟨n, h⟩ := h
  refine ⟨n + 1, ?_⟩
  rw [evCode, hc]
  cases b <;> exact h
theorem Runs.block {id : Nat} {c : Code} {s s' : St} {e : Ex} (h : Runs C P c s e s') : Runs C P (.block id c) s (match e with | .exit i => if i = id then .norm else .exit i | e => e) s' := by
  obtain ⟨n, h⟩ := h
  refine ⟨n + 1, ?_⟩
  rw [evCode, h]
  cases e with
  | exit i => simp only; split <;> rfl
  | norm => rfl
  | ret => rfl
theorem Runs.scope {c : Code} {s s' : St} {e : Ex} (h : Runs C P c s e s') : Runs C P (.scope c) s e s' := by
  obtain ⟨n, h⟩ := h
  exact ⟨n + 1, by rw [evCode]; exact h⟩
/-- A loop from a state at its head on. -/
def LRuns (C : Ctx) (P : Program) (c : Code) (t : St) (e : Ex) (s' : St) : Prop := ∃ n, (match evCode C P n c t with
  | some (.norm, s1) => evCode C P n (.loop c) (clean t.H.length s1)
  | some (.exit i, s1) => some (.exit i, leave C.kl c t.H.length s1)
  | some (.ret, s1) => some (.ret, leave C.kl c t.H.length s1)
  | none => none) = some (e, s')
theorem renG_len (base : Nat) (H : List Blk) : ∀ (k : Nat) (l : List Blk), (renG base H k l).length = l.length
  | _, [] => rfl
  | k, b :: r => by rw [renG, List.length_cons, renG_len base H (k + 1) r, List.length_cons]
theorem head_len (kl : List (List Nat × List Nat × List Nat)) (c : Code) (s : St) : (head kl c s).H.length = s.H.length := by
  show (clean s.H.length s).H.length = _
  unfold clean clean0
  split
  · rw [renG_len, List.length_take]; omega
  · rfl
theorem LRuns.runs {c : Code} {s s' : St} {e : Ex} (h : LRuns C P c (head C.kl c s) e s') : Runs C P (.loop c) s e s' := by
  obtain ⟨n, h⟩ := h
  rw [head_len] at h
  exact ⟨n + 1, by rw [evCode]; exact h⟩
theorem LRuns.again {c : Code} {t s1 s' : St} {e : Ex} (h : Runs C P c t .norm s1) (k : LRuns C P c (head C.kl c (clean t.H.length s1)) e s') : LRuns C P c t e s' := by
  obtain ⟨n, h⟩ := h
  obtain ⟨m, k⟩ := k.runs
  refine ⟨max n m, ?_⟩
  rw [evCode_le (Nat.le_max_left n m) h]
  exact evCode_le (Nat.le_max_right n m) k
theorem LRuns.out {c : Code} {t s' : St} {e : Ex} (h : Runs C P c t e s') (he : e ≠ .norm) : LRuns C P c t e (leave C.kl c t.H.length s') := by
  obtain ⟨n, h⟩ := h
  refine ⟨n, ?_⟩
  rw [h]
  cases e <;> first | rfl | exact absurd rfl he
end Go.Proofs.YtalkodandfjkmaaDoor.Av

/- Ways through code: where a test, a call, a loop turns out so, the code ends so; what must be so is told. -/
set_option linter.unusedVariables false
set_option linter.unusedSimpArgs false
namespace Go.Proofs.YtalkodandfjkmaaDoor.Av
open Go Go.RowKit
variable {P : Program} {C : Ctx}

/-- What is said ahead: a test's outcome, what a summary answers, what a function answers, where a loop ends. -/
inductive Or where
  | t (b : Bool)
  | c (r : AV) (Hr : List Blk)
  | f (r : AV) (H' : List Blk)
  | l (e : Ex) (s : St)
  | r (x : AV)
  | g (n m : Nat) (get : Nat → List AV)
  | e (cells : List AV)
  | s (cells : List AV) (es : List (List AV))
  | a (es : List (List AV))
  | u
  | b (r : Bool)
  | j (e : Ex) (s : St)
  | k

/-- What is asked for. -/
inductive Ask where
  | test (b : Bool)
  | op (o : Oper) (tmps : List AV) (H : List Blk)
  | loop (c : Code) (s : St)
  | fn (n : Nat)
  | draw
  | code
  | out
/-- What came of it: behind it the rest of what is said, and what must be so; or what is asked. -/
inductive Rs (α : Type) where
  | ok (a : α) (os : List Or) (ps : List Prop)
  | no (q : Ask)

def All (ps : List Prop) : Prop := ∀ p ∈ ps, p
theorem All.nil : All [] := fun p h => by cases h
theorem All.cons {p : Prop} {ps : List Prop} (h : p) (k : All ps) : All (p :: ps) := fun q hq => by
  rcases List.mem_cons.1 hq with rfl | hq
  · exact h
  · exact k q hq
theorem All.head {p : Prop} {ps : List Prop} (h : All (p :: ps)) : p := h p List.mem_cons_self
theorem All.tail {p : Prop} {ps : List Prop} (h : All (p :: ps)) : All ps := fun q hq => h q (List.mem_cons_of_mem _ hq)
theorem All.left {ps qs : List Prop} (h : All (ps ++ qs)) : All ps := fun p hp => h p (List.mem_append.2 (.inl hp))
theorem All.right {ps qs : List Prop} (h : All (ps ++ qs)) : All qs := fun p hp => h p (List.mem_append.2 (.inr hp))

/-- A part of a list: what it is (told), and what must hold. -/
def sliceP (d : TD) (x : AV) (lo hi mx : Option AV) (os : List Or) : Option (AV × List Or × List Prop) :=
  match d, x with
  | .sl _ sz' _, .lst sz n m get => if sz = sz' ∧ (mx.isNone || hi.isSome) = true then match boundA 0 lo, boundA n hi, boundA m mx with
      | some l, some h, some k => match os with
        | .g n' m' get' :: os' => some (.lst sz n' m' (nrm m' get'), os', [0 ≤ l ∧ l ≤ h ∧ h ≤ k ∧ k ≤ m, h.toNat - l.toNat = n', k.toNat - l.toNat = m', ∀ i, i < m' → get (l.toNat + i) = get' i])
        | _ => none
      | _, _, _ => none else none
  | .one (.string _), .v (.string s) => if mx.isNone = true then match boundA 0 lo, boundA s.size hi with
      | some l, some h => some (.v (.string (s.extract l.toNat h.toNat)), os, [0 ≤ l ∧ l ≤ h ∧ h ≤ s.size])
      | _, _ => none else none
  | _, _ => none
theorem nrm_ext {m : Nat} {f g : Nat → List AV} (h : ∀ i, i < m → f i = g i) : nrm m f = nrm m g := by
  funext i
  unfold nrm
  split
  · rename_i hi; exact h i hi
  · rfl
theorem nrm_at {m i : Nat} {f : Nat → List AV} (h : i < m) : nrm m f i = f i := if_pos h
theorem sliceP_sound {d : TD} {x y : AV} {lo hi mx : Option AV} {os os' : List Or} {ps : List Prop} (e : sliceP d x lo hi mx os = some (y, os', ps)) (h : All ps) : sliceA d x lo hi mx = some y := by
  unfold sliceP at e
  unfold sliceA
  split at e
  · split at e
    · rename_i hc
      split at e
      · rename_i l h' k hl hh hk
        split at e
        · simp only [Option.some.injEq, Prod.mk.injEq] at e
          obtain ⟨rfl, rfl, rfl⟩ := e
          simp only [hl, hh, hk]
          rw [if_pos hc, if_pos h.head]
          have h1 := h.tail.head
          have h2 := h.tail.tail.head
          subst h1
          subst h2
          rw [nrm_ext h.tail.tail.tail.head]
        · cases e
      · cases e
    · cases e
  · split at e
    · rename_i hc
      split at e
      · rename_i l h' hl hh
        simp only [Option.some.injEq, Prod.mk.injEq] at e
        obtain ⟨rfl, rfl, rfl⟩ := e
        simp only [hl, hh]
        rw [if_pos hc, if_pos h.head]
      · cases e
    · cases e
  · cases e

/-- What lies in an element's cells, from a place on. -/
def loadC (d : TD) (c : List AV) (off : Nat) : Option AV := match d.ld with
  | .one _ => c[off]?
  | .agg sz _ _ => if off + sz ≤ c.length then some (.agg ((c.drop off).take sz)) else none
  | _ => none
theorem loadC_sound {t id ver i off e sz : Nat} {bv : Bool} {es : List (List AV)} {c : List AV} {H : List Blk} {y : AV} (hH : H[id]? = some (.grow e sz ver bv es)) (hc : es[i]? = some c) (h : loadC (C.td t) c off = some y) : loadA C t (.gpt id ver i off) H = some y := by
  unfold loadC at h
  unfold loadA
  split at h
  · rename_i z hz
    simp only [hz, hH, hc, if_true]
    exact h
  · rename_i sz' fs zs hz
    simp only [hz, hH, hc, if_true]
    exact h
  · cases h
def isAr : BinOp → Bool
  | .eql | .neq | .lss | .leq | .gtr | .geq => false
  | _ => true
/-- Quiet operations that ask: a choice, a place in a list, a part of a list; a number may be told. -/
def opT (C : Ctx) (P : Program) (tmps : List AV) (H : List Blk) (o : Oper) (os : List Or) : Option (AV × List Or × List Prop) :=
  match o.op with
  | .pick c a b => match evA tmps c, os with
    | .v (.bool t), .t x :: os => some (match x with | true => evA tmps a | false => evA tmps b, os, [t = x])
    | _, _ => none
  | .indexAddr t x i => match C.td t, evA tmps i with
    | .sl _ sz _, .v (.int _ n) => match evA tmps x with
      | .lst s m _ get => if s = sz then match os with
        | .e cs :: os' => some (.ept cs, os', [0 ≤ n ∧ n < m, get n.toNat = cs])
        | _ => some (.ept (get n.toNat), os, [0 ≤ n ∧ n < m]) else none
      | .own id ver => match H[id]? with
        | some (.grow _ s v _ es) => if ver = v ∧ s = sz then some (.gpt id ver n.toNat 0, os, [0 ≤ n ∧ n < es.length]) else none
        | _ => none
      | _ => none
    | _, _ => none
  | .index t x i => match C.td t, evA tmps x, evA tmps i with
    | .one (.string _), .v (.string s), .v (.int _ n) => some (.v (.int .u8 (s.data.getD n.toNat 0).toNat), os, [0 ≤ n ∧ n < s.size])
    | _, _, _ => none
  | .slice t x lo hi mx => match zeroCut lo hi mx with
    | true => match zeroA (C.td t) (evA tmps x) H with
      | some y => some (y, os, [])
      | none => none
    | false => match sliceP (C.td t) (evA tmps x) (lo.map (evA tmps)) (hi.map (evA tmps)) (mx.map (evA tmps)) os with
      | some (y, os', ps) => some (y, os', ps)
      | none => none
  | .load t x => match evA tmps x, os with
    | .gpt id ver i off, .e c :: os' => match H[id]? with
      | some (.grow _ _ v _ es) => if ver = v then match loadC (C.td t) c off with
        | some y => some (y, os', [es[i]? = some c])
        | none => none else none
      | _ => none
    | _, os => match evOpQ C P tmps H o with | some x => some (x, os, []) | none => none
  | .call c => match c.callee with
    | .builtin .len => match c.args.toList, c.argTypes.toList with
      | [x], [t] => match C.td t, evA tmps x, os with
        | .sl _ _ _, .own id ver, .r y :: os' => match lenA (.own id ver) H with
          | some n => some (y, os', [AV.v (.int .i64 n) = y])
          | none => none
        | _, _, os => match evOpQ C P tmps H o with | some x => some (x, os, []) | none => none
      | _, _ => none
    | _ => none
  | .binOp b t x y _ => match b, evA tmps x, evA tmps y with
    | .rem, .v (.int k n), .v (.int k' d) => if k = k' then some (.v (.int k (n.tmod d)), os, [d ≠ 0]) else none
    | .quo, .v (.int k n), .v (.int k' d) => if k = k' then some (.v (.int k (k.wrap (n.tdiv d))), os, [d ≠ 0]) else none
    | .add, .v (.string n), .v (.string d) => some (.v (.string (n ++ d)), os, [n.size + d.size ≤ 9223372036854775807])
    | _, _, _ => match isAr b, os with
      | true, .r x :: os' => some (x, os', [evOpQ C P tmps H o = some x])
      | false, .b r :: os' => match b with
        | .eql => some (.v (.bool r), os', [eqA C t (isConst x || isConst y) (evA tmps x) (evA tmps y) = some r])
        | .neq => some (.v (.bool (!r)), os', [eqA C t (isConst x || isConst y) (evA tmps x) (evA tmps y) = some r])
        | _ => none
      | _, os => match evOpQ C P tmps H o with | some x => some (x, os, []) | none => none
  | _ => none

theorem opT_sound {tmps : List AV} {H : List Blk} {o : Oper} {os os' : List Or} {x : AV} {ps : List Prop} (e : opT C P tmps H o os = some (x, os', ps)) (h : All ps) : evOpQ C P tmps H o = some x := by
  unfold opT at e
  split at e
  · rename_i c a b ho
    split at e
    · rename_i t y os1 hc
      simp only [Option.some.injEq, Prod.mk.injEq] at e
      obtain ⟨rfl, rfl, rfl⟩ := e
      have := h.head
      subst this
      simp only [evOpQ, ho, hc]
      cases t <;> rfl
    · cases e
  · rename_i t y i ho
    split at e
    · rename_i e' sz by' k n htd hi
      split at e
      · rename_i s m _ get hx
        split at e
        · rename_i hs
          split at e
          · simp only [Option.some.injEq, Prod.mk.injEq] at e
            obtain ⟨rfl, rfl, rfl⟩ := e
            simp only [evOpQ, ho, htd, hi, hx, idxA, hs, if_true]
            rw [if_pos h.head, h.tail.head]
          · simp only [Option.some.injEq, Prod.mk.injEq] at e
            obtain ⟨rfl, rfl, rfl⟩ := e
            simp only [evOpQ, ho, htd, hi, hx, idxA, hs, if_true]
            rw [if_pos h.head]
        · cases e
      · rename_i id ver hx
        split at e
        · rename_i e2 s v bv es hH
          split at e
          · rename_i hs
            simp only [Option.some.injEq, Prod.mk.injEq] at e
            obtain ⟨rfl, rfl, rfl⟩ := e
            simp only [evOpQ, ho, htd, hi, hx, idxA, hH]
            rw [if_pos hs, if_pos h.head]
          · cases e
        · cases e
      · cases e
    · cases e
  · rename_i t y i ho
    split at e
    · rename_i z s k n htd hx hi
      simp only [Option.some.injEq, Prod.mk.injEq] at e
      obtain ⟨rfl, rfl, rfl⟩ := e
      simp only [evOpQ, ho, htd, hi, hx]
      rw [if_pos h.head]
    · cases e
  · rename_i t y lo hi mx ho
    split at e
    · rename_i hzc
      split at e
      · rename_i z hz
        simp only [Option.some.injEq, Prod.mk.injEq] at e
        obtain ⟨rfl, rfl, rfl⟩ := e
        simp only [evOpQ, ho, hzc, hz]
      · cases e
    · rename_i hzc
      split at e
      · rename_i z os1 ps1 hz
        simp only [Option.some.injEq, Prod.mk.injEq] at e
        obtain ⟨rfl, rfl, rfl⟩ := e
        simp only [evOpQ, ho, hzc, sliceP_sound hz h]
      · cases e
  · rename_i t y ho
    split at e
    · rename_i id ver i off c os1 hx
      split at e
      · rename_i e2 s v bv es hH
        split at e
        · rename_i hv
          subst hv
          split at e
          · rename_i z hz
            simp only [Option.some.injEq, Prod.mk.injEq] at e
            obtain ⟨rfl, rfl, rfl⟩ := e
            simp only [evOpQ, ho, hx]
            exact loadC_sound hH h.head hz
          · cases e
        · cases e
      · cases e
    · split at e
      · rename_i z hz
        simp only [Option.some.injEq, Prod.mk.injEq] at e
        obtain ⟨rfl, _, _⟩ := e
        exact hz
      · cases e
  · rename_i c ho
    split at e
    · rename_i hc
      split at e
      · rename_i y t hargs hts
        split at e
        · rename_i e1 sz1 by1 id ver y' os1 htd hx
          split at e
          · rename_i n hn
            simp only [Option.some.injEq, Prod.mk.injEq] at e
            obtain ⟨rfl, rfl, rfl⟩ := e
            simp only [evOpQ, ho, hc, hargs, hts, htd, hx, hn]
            rw [h.head]
          · cases e
        · split at e
          · rename_i z hz
            simp only [Option.some.injEq, Prod.mk.injEq] at e
            obtain ⟨rfl, _, _⟩ := e
            exact hz
          · cases e
      · cases e
    · cases e
  · rename_i b t y z t' ho
    split at e
    · rename_i k n k' d h1 h2
      split at e
      · rename_i hk
        simp only [Option.some.injEq, Prod.mk.injEq] at e
        obtain ⟨rfl, rfl, rfl⟩ := e
        simp only [evOpQ, ho, h1, h2, opS, if_pos (And.intro hk h.head)]
      · cases e
    · rename_i k n k' d h1 h2
      split at e
      · rename_i hk
        simp only [Option.some.injEq, Prod.mk.injEq] at e
        obtain ⟨rfl, rfl, rfl⟩ := e
        simp only [evOpQ, ho, h1, h2, opS, if_pos (And.intro hk h.head)]
      · cases e
    · rename_i n d h1 h2
      simp only [Option.some.injEq, Prod.mk.injEq] at e
      obtain ⟨rfl, rfl, rfl⟩ := e
      simp only [evOpQ, ho, h1, h2, opS, if_pos h.head]
    · split at e
      · simp only [Option.some.injEq, Prod.mk.injEq] at e
        obtain ⟨rfl, rfl, rfl⟩ := e
        exact h.head
      · split at e
        · simp only [Option.some.injEq, Prod.mk.injEq] at e
          obtain ⟨rfl, rfl, rfl⟩ := e
          simp only [evOpQ, ho, h.head]
        · simp only [Option.some.injEq, Prod.mk.injEq] at e
          obtain ⟨rfl, rfl, rfl⟩ := e
          simp only [evOpQ, ho, h.head]
        · cases e
      · split at e
        · rename_i y hy
          simp only [Option.some.injEq, Prod.mk.injEq] at e
          obtain ⟨rfl, _, _⟩ := e
          exact hy
        · cases e
  · cases e

def isT (o : Oper) : Bool := match o.op with
  | .pick .. | .indexAddr .. | .index .. | .slice .. | .binOp .. | .load .. => true
  | .call c => match c.callee with
    | .builtin .len => true
    | _ => false
  | _ => false

/-- A quiet operation on a way. -/
def opQP (C : Ctx) (P : Program) (tmps : List AV) (H : List Blk) (o : Oper) (os : List Or) : Option (AV × List Or × List Prop) :=
  if isT o then opT C P tmps H o os else
  match o.op, os with
  | .call c, .c r Hr :: os' => match c.callee with
    | .value f => match AV.val Hr r with
      | some y => some (y, os', [callMA C (evA tmps f) (c.args.toList.map (evA tmps)) H = some (r, Hr)])
      | none => none
    | _ => match evOpQ C P tmps H o with | some x => some (x, .c r Hr :: os', []) | none => none
  | _, os => match evOpQ C P tmps H o with | some x => some (x, os, []) | none => none
theorem opQP_sound {tmps : List AV} {H : List Blk} {o : Oper} {os os' : List Or} {x : AV} {ps : List Prop} (e : opQP C P tmps H o os = some (x, os', ps)) (h : All ps) : evOpQ C P tmps H o = some x := by
  unfold opQP at e
  split at e
  · exact opT_sound e h
  · split at e
    · rename_i c r Hr os1 ho
      split at e
      · rename_i f hc
        split at e
        · rename_i y hy
          simp only [Option.some.injEq, Prod.mk.injEq] at e
          obtain ⟨rfl, rfl, rfl⟩ := e
          simp only [evOpQ, ho, hc, h.head]
          exact hy
        · cases e
      · split at e
        · rename_i y hy
          simp only [Option.some.injEq, Prod.mk.injEq] at e
          obtain ⟨rfl, _, _⟩ := e
          exact hy
        · cases e
    · split at e
      · rename_i y hy
        simp only [Option.some.injEq, Prod.mk.injEq] at e
        obtain ⟨rfl, _, _⟩ := e
        exact hy
      · cases e

/-- What an append leaves, and what must fit. -/
def appendP (e sz bytes : Nat) (s x : AV) (H : List Blk) (os : List Or) : Option ((AV × List Blk) × List Or × List Prop) :=
  match appArg sz x H with
  | none => none
  | some (new, nbv) => match os with
    | .a es1 :: os' => match s with
      | .v (.slice none 0 0) => some ((.own H.length 0, H ++ [.grow e sz 0 nbv es1]), os', [es1.length * bytes ≤ 140737488355328 ∧ es1.length ≤ maxLen, new = es1])
      | .z true _ => some ((.own H.length 0, H ++ [.grow e sz 0 nbv es1]), os', [es1.length * bytes ≤ 140737488355328 ∧ es1.length ≤ maxLen, new = es1])
      | .own id ver => match H[id]? with
        | some (.grow e' s' ver' bv es) => if ver = ver' ∧ e = e' ∧ s' = sz then
            some ((.own id (ver + 1), H.set id (.grow e sz (ver + 1) (bv && nbv) es1)), os', [es1.length * bytes ≤ 140737488355328 ∧ es1.length ≤ maxLen, es ++ new = es1]) else none
        | _ => none
      | _ => none
    | .t true :: os' => match s with
      | .z false _ => some ((.z false sz, H), os', [decide (new.length = 0) = true])
      | _ => none
    | .t false :: .a es1 :: os' => match s with
      | .z false _ => some ((.own H.length 0, H ++ [.grow e sz 0 nbv es1]), os', [decide (new.length = 0) = false, es1.length * bytes ≤ 140737488355328 ∧ es1.length ≤ maxLen, new = es1])
      | _ => none
    | _ => none
theorem appendP_sound {e sz bytes : Nat} {s x : AV} {H : List Blk} {r : AV × List Blk} {os os' : List Or} {ps : List Prop} (q : appendP e sz bytes s x H os = some (r, os', ps)) (h : All ps) : appendA e sz bytes s x H = some r := by
  unfold appendP at q
  unfold appendA
  split at q
  · cases q
  · rename_i new nbv hn
    simp only [hn]
    split at q
    · split at q
      · simp only [Option.some.injEq, Prod.mk.injEq] at q
        obtain ⟨rfl, rfl, rfl⟩ := q
        have h2 := h.tail.head
        subst h2
        have h1 := h.head
        simp only []
        rw [if_pos h1]
        try rfl
      · simp only [Option.some.injEq, Prod.mk.injEq] at q
        obtain ⟨rfl, rfl, rfl⟩ := q
        have h2 := h.tail.head
        subst h2
        have h1 := h.head
        simp only []
        rw [if_pos h1]
        try rfl
      · rename_i id ver
        split at q
        · rename_i e' s' v bv es hH
          split at q
          · rename_i hv
            simp only [Option.some.injEq, Prod.mk.injEq] at q
            obtain ⟨rfl, rfl, rfl⟩ := q
            have h2 := h.tail.head
            subst h2
            have h1 := h.head
            rw [List.length_append] at h1
            simp only [hH]
            rw [if_pos ⟨hv.1, hv.2.1, hv.2.2, h1⟩]
          · cases q
        · cases q
      · cases q
    · split at q
      · simp only [Option.some.injEq, Prod.mk.injEq] at q
        obtain ⟨rfl, rfl, rfl⟩ := q
        simp only [h.head]
        try rfl
      · cases q
    · split at q
      · simp only [Option.some.injEq, Prod.mk.injEq] at q
        obtain ⟨rfl, rfl, rfl⟩ := q
        have h3 := h.tail.tail.head
        subst h3
        have h1 := h.tail.head
        simp only [h.head]
        rw [if_pos h1]
        try rfl
      · cases q
    · cases q

/-- A store into an element: what lies there, and the elements behind. -/
def storeP (C : Ctx) (t : Nat) (x y : AV) (H : List Blk) (os : List Or) : Option (List Blk × List Or × List Prop) :=
  match x, os with
  | .gpt id ver i off, .s c es1 :: os' => if 0 < y.cells.length ∧ y.cells.length = (C.td t).size ∧ y.cells.all AV.atom = true then match H[id]? with
      | some (.grow e sz ver' bv es) => if ver = ver' ∧ off + y.cells.length ≤ c.length then
          some (H.set id (.grow e sz ver (bv && AV.hbs 0 (y.cells.map dz)) es1), os', [es[i]? = some c, es.set i (splice c off (y.cells.map dz)) = es1]) else none
      | _ => none else none
  | _, os => match storeA C t x y H with | some H' => some (H', os, []) | none => none
theorem storeP_sound {t : Nat} {x y : AV} {H H' : List Blk} {os os' : List Or} {ps : List Prop} (q : storeP C t x y H os = some (H', os', ps)) (h : All ps) : storeA C t x y H = some H' := by
  unfold storeP at q
  split at q
  · split at q
    · rename_i hy
      split at q
      · rename_i e sz v bv es hH
        split at q
        · rename_i hv
          simp only [Option.some.injEq, Prod.mk.injEq] at q
          obtain ⟨rfl, rfl, rfl⟩ := q
          have h2 := h.tail.head
          subst h2
          unfold storeA
          simp only []
          rw [if_pos hy]
          simp only [hH, h.head]
          rw [if_pos hv.1, if_pos hv.2]
        · cases q
      · cases q
    · cases q
  · split at q
    · rename_i z hz
      simp only [Option.some.injEq, Prod.mk.injEq] at q
      obtain ⟨rfl, _, _⟩ := q
      exact hz
    · cases q

/-- A part of an own list: it is let go of. -/
def freezeP (C : Ctx) (tmps : List AV) (H : List Blk) (o : Oper) (os : List Or) : Option ((AV × List Blk) × List Or × List Prop) :=
  match o.op with
  | .slice t x lo hi mx => match zeroCut lo hi mx with
   | true => none
   | false => match evA tmps x with
    | .own id ver => match AV.val H (.own id ver) with
      | some y => match sliceP (C.td t) y (lo.map (evA tmps)) (hi.map (evA tmps)) (mx.map (evA tmps)) os with
        | some (z, os', ps) => some ((z, H.set id .dead), os', ps)
        | none => none
      | none => none
    | _ => none
  | _ => none
theorem freezeP_sound {tmps : List AV} {H : List Blk} {o : Oper} {r : AV × List Blk} {os os' : List Or} {ps : List Prop} (e : freezeP C tmps H o os = some (r, os', ps)) (h : All ps) (g : Nat → List AV → List Blk → Option (AV × List Blk)) : evOpE C g tmps H o = some r := by
  unfold freezeP at e
  split at e
  · rename_i t x lo hi mx ho
    split at e
    · cases e
    · rename_i hzc
      split at e
      · rename_i id ver hx
        split at e
        · rename_i y hy
          split at e
          · rename_i z os1 ps1 hz
            simp only [Option.some.injEq, Prod.mk.injEq] at e
            obtain ⟨rfl, rfl, rfl⟩ := e
            simp only [evOpE, ho, hzc, hx, hy, sliceP_sound hz h]
          · cases e
        · cases e
      · cases e
  · cases e

/-- An operation on a way. -/
def opP (C : Ctx) (P : Program) (call : Nat → List AV → List Blk → List Or → Rs (AV × List Blk)) (tmps : List AV) (H : List Blk) (o : Oper) (os : List Or) : Rs (AV × List Blk) :=
  match freezeP C tmps H o os with
  | some (r, os', ps) => .ok r os' ps
  | none =>
  if isT o then match opT C P tmps H o os with | some (x, os', ps) => .ok (x, H) os' ps | none => .no (.op o tmps H) else
  match o.op with
  | .call c => match c.callee with
    | .builtin .append => match c.args.toList, c.argTypes.toList with
      | [s, x], [t, t'] => if t = t' then match C.td t with
        | .sl e sz bytes => match appendP e sz bytes (evA tmps s) (evA tmps x) H os with
          | some (r, os', ps) => .ok r os' ps
          | none => .no (.op o tmps H)
        | _ => .no (.op o tmps H) else .no (.op o tmps H)
      | _, _ => .no (.op o tmps H)
    | .value f => match evA tmps f with
      | .fn n caps => match C.m n with
        | some _ => match os with
          | .c r Hr :: os' => .ok (r.shift H.length, H ++ Hr.map (Blk.shift H.length)) os' [callMA C (.fn n caps) (c.args.toList.map (evA tmps)) H = some (r, Hr)]
          | _ => .no (.op o tmps H)
        | none => match os with
          | .f r H' :: os' => .ok (r, H') os' [Fn C P n (c.args.toList.map (evA tmps) ++ caps) H r H']
          | os => call n (c.args.toList.map (evA tmps) ++ caps) H os
      | _ => .no (.op o tmps H)
    | _ => match evOp C P (fun _ _ _ => none) tmps H o with | some r => .ok r os [] | none => .no (.op o tmps H)
  | .store t x y => match storeP C t (evA tmps x) (zsl (C.td t) (evA tmps y)) H os with
    | some (H', os', ps) => .ok (.any, H') os' ps
    | none => .no (.op o tmps H)
  | _ => match evOp C P (fun _ _ _ => none) tmps H o with | some r => .ok r os [] | none => .no (.op o tmps H)
theorem callLe_none (g : Nat → List AV → List Blk → Option (AV × List Blk)) : CallLe (fun _ _ _ => none) g := fun n args H r e => by cases e

def CallP (C : Ctx) (P : Program) (call : Nat → List AV → List Blk → List Or → Rs (AV × List Blk)) : Prop :=
  ∀ n args H os r H' os' ps, call n args H os = .ok (r, H') os' ps → All ps → Fn C P n args H r H'

theorem opT_E {tmps : List AV} {H : List Blk} {o : Oper} {os os' : List Or} {x : AV} {ps : List Prop} (e : opT C P tmps H o os = some (x, os', ps)) (h : isT o = true) (g : Nat → List AV → List Blk → Option (AV × List Blk)) : evOpE C g tmps H o = none := by
  cases ho : o.op with
  | slice t y lo hi mx =>
    simp only [evOpE, ho]
    cases hzc : zeroCut lo hi mx with
    | true => rfl
    | false =>
      simp only []
      cases hy : evA tmps y with
      | own id ver =>
        simp only [opT, ho, hzc, hy, sliceP] at e
        split at e
        · rename_i hq
          split at hq
          · rename_i hz; cases hz
          · rename_i hz; cases hz
          · cases hq
        · cases e
      | _ => rfl
  | call c =>
    simp only [isT, ho] at h
    cases hc : c.callee with
    | builtin b => cases b <;> simp only [hc] at h <;> first | (cases h; done) | simp only [evOpE, ho, hc]
    | _ => simp only [hc] at h; cases h
  | _ => first | (simp only [isT, ho] at h; cases h; done) | simp only [evOpE, ho]
theorem callMA_none {n : Nat} {caps args : List AV} {H : List Blk} (h : C.m n = none) : callMA C (.fn n caps) args H = none := by
  simp only [callMA, h]

theorem opP_sound {call : Nat → List AV → List Blk → List Or → Rs (AV × List Blk)} (hC : CallP C P call) {tmps : List AV} {H : List Blk} {o : Oper} {os os' : List Or} {r : AV × List Blk} {ps : List Prop} (e : opP C P call tmps H o os = .ok r os' ps) (h : All ps) : ∃ k, ∀ m, k ≤ m → evOp C P (evFn C (evCode C P m)) tmps H o = some r := by
  have plain : ∀ q, evOp C P (fun _ _ _ => none) tmps H o = some q → ∃ k, ∀ m, k ≤ m → evOp C P (evFn C (evCode C P m)) tmps H o = some q := fun q hq => ⟨0, fun m _ => evOp_mono (callLe_none _) hq⟩
  unfold opP at e
  split at e
  · rename_i q os1 ps1 hq
    simp only [Rs.ok.injEq] at e
    obtain ⟨rfl, rfl, rfl⟩ := e
    refine ⟨0, fun m _ => ?_⟩
    unfold evOp
    rw [freezeP_sound hq h]
  split at e
  · rename_i hT
    split at e
    · rename_i x os1 ps1 hx
      simp only [Rs.ok.injEq] at e
      obtain ⟨rfl, rfl, rfl⟩ := e
      refine ⟨0, fun m _ => ?_⟩
      unfold evOp
      rw [opT_E hx hT, opT_sound hx h]
    · cases e
  · split at e
    · rename_i c ho
      split at e
      · rename_i hc
        split at e
        · rename_i s x t t' hargs hts
          split at e
          · rename_i htt
            split at e
            · rename_i e' sz by' htd
              split at e
              · rename_i q os1 ps1 hq
                simp only [Rs.ok.injEq] at e
                obtain ⟨rfl, rfl, rfl⟩ := e
                refine ⟨0, fun m _ => ?_⟩
                unfold evOp
                simp only [evOpE, ho, hc, hargs, hts, htt, if_true]
                rw [← htt, htd]
                simp only [appendP_sound hq h]
              · cases e
            · cases e
          · cases e
        · cases e
      · rename_i f hc
        split at e
        · rename_i n caps hf
          split at e
          · split at e
            · simp only [Rs.ok.injEq] at e
              obtain ⟨rfl, rfl, rfl⟩ := e
              refine ⟨0, fun m _ => ?_⟩
              unfold evOp
              simp only [evOpE, ho, hc, hf, h.head]
            · cases e
          · rename_i hm
            have key : ∀ r : AV × List Blk, Fn C P n (c.args.toList.map (evA tmps) ++ caps) H r.1 r.2 → ∃ k, ∀ m, k ≤ m → evOp C P (evFn C (evCode C P m)) tmps H o = some r := fun r ⟨k, hk⟩ => ⟨k, fun m hm' => by
              unfold evOp
              simp only [evOpE, ho, hc, hf, callMA_none hm, evFn_le hm' _ _ _ _ hk]⟩
            split at e
            · simp only [Rs.ok.injEq] at e
              obtain ⟨rfl, rfl, rfl⟩ := e
              exact key (_, _) h.head
            · exact key r (hC _ _ _ _ _ _ _ _ e h)
        · cases e
      · split at e
        · rename_i q hq
          simp only [Rs.ok.injEq] at e
          obtain ⟨rfl, _, _⟩ := e
          exact plain _ hq
        · cases e
    · rename_i t' x' y' ho
      split at e
      · rename_i H' os1 ps1 hq
        simp only [Rs.ok.injEq] at e
        obtain ⟨rfl, rfl, rfl⟩ := e
        refine ⟨0, fun m _ => ?_⟩
        unfold evOp
        simp only [evOpE, ho, storeP_sound hq h]
      · cases e
    · split at e
      · rename_i q hq
        simp only [Rs.ok.injEq] at e
        obtain ⟨rfl, _, _⟩ := e
        exact plain _ hq
      · cases e
end Go.Proofs.YtalkodandfjkmaaDoor.Av

/- Ways through code and functions: what is told is enough for the code to come to its end. -/
set_option linter.unusedVariables false
set_option linter.unusedSimpArgs false
namespace Go.Proofs.YtalkodandfjkmaaDoor.Av
open Go Go.RowKit
variable {P : Program} {C : Ctx}

/-- Is an operation wanted on this way? Its guard's slot then holds what was told. -/
def wantP (ops : Array Oper) (tmps : List AV) (o : Oper) (os : List Or) : Rs (Bool × List AV) :=
  match o.guard with
  | none => .ok (true, tmps) os []
  | some (j, b) => match (ops[j]?).bind (·.dst) with
    | some d => match tmps.getD d .any with
      | .v (.bool t) => match os with
        | .t x :: os' => .ok (x == b, tmps.set d (.v (.bool x))) os' [t = x]
        | _ => .no (.test t)
      | .v (.tuple _) => .ok (false, tmps) os []
      | _ => .no (.op o tmps [])
    | none => .no (.op o tmps [])
theorem set_getD {l : List AV} {d : Nat} {x y : AV} (h : l.getD d x = y) (hx : y ≠ x) : l.set d y = l := by
  apply List.ext_getElem?
  intro i
  rw [List.getElem?_set]
  split
  · rename_i hd
    subst hd
    rw [List.getD_eq_getElem?_getD] at h
    cases hl : l[d]? with
    | none => rw [hl] at h; exact absurd h.symm hx
    | some z =>
      rw [hl] at h
      obtain ⟨hl', _⟩ := List.getElem?_eq_some_iff.1 hl
      simp only [hl', if_true]
      exact congrArg some h.symm
  · rfl
theorem wantP_sound {ops : Array Oper} {tmps t' : List AV} {o : Oper} {os os' : List Or} {b : Bool} {ps : List Prop} (e : wantP ops tmps o os = .ok (b, t') os' ps) (h : All ps) : wantA ops tmps o = some b ∧ t' = tmps := by
  unfold wantP at e
  unfold wantA
  split at e
  · rename_i hg
    simp only [Rs.ok.injEq, Prod.mk.injEq] at e
    obtain ⟨⟨rfl, rfl⟩, _, _⟩ := e
    simp only [hg, and_self]
  · rename_i j c hg
    simp only [hg]
    split at e
    · rename_i d hd
      simp only [hd]
      split at e
      · rename_i t ht
        simp only [ht]
        split at e
        · simp only [Rs.ok.injEq, Prod.mk.injEq] at e
          obtain ⟨⟨rfl, rfl⟩, _, rfl⟩ := e
          have := h.head
          subst this
          exact ⟨rfl, set_getD ht (fun q => by cases q)⟩
        · cases e
      · rename_i us ht
        simp only [Rs.ok.injEq, Prod.mk.injEq] at e
        obtain ⟨⟨rfl, rfl⟩, _, _⟩ := e
        simp only [ht, and_self]
      · cases e
    · cases e

/-- A row of operations on a way. -/
def opsP (C : Ctx) (P : Program) (call : Nat → List AV → List Blk → List Or → Rs (AV × List Blk)) (ops : Array Oper) : List Oper → St → List Or → Rs St
  | [], s, os => .ok s os []
  | o :: r, s, os => match wantP ops s.tmps o os with
    | .ok (true, t) os1 ps1 => match opP C P call t s.H o os1 with
      | .ok (x, H) os2 ps2 => match opsP C P call ops r ⟨put t o.dst x, H, s.base⟩ os2 with
        | .ok s' os3 ps3 => .ok s' os3 (ps1 ++ (ps2 ++ ps3))
        | .no q => .no q
      | .no q => .no q
    | .ok (false, t) os1 ps1 => match opsP C P call ops r ⟨put t o.dst (.v undef), s.H, s.base⟩ os1 with
      | .ok s' os3 ps3 => .ok s' os3 (ps1 ++ ps3)
      | .no q => .no q
    | .no q => .no q
theorem opsP_sound {call : Nat → List AV → List Blk → List Or → Rs (AV × List Blk)} (hC : CallP C P call) {ops : Array Oper} : ∀ (l : List Oper) (s s' : St) (os os' : List Or) (ps : List Prop), opsP C P call ops l s os = .ok s' os' ps → All ps → ∃ k, ∀ m, k ≤ m → evOps C P (evFn C (evCode C P m)) ops l s = some s'
  | [], s, s', os, os', ps, e, h => by
    simp only [opsP, Rs.ok.injEq] at e
    obtain ⟨rfl, _, _⟩ := e
    exact ⟨0, fun m _ => rfl⟩
  | o :: r, s, s', os, os', ps, e, h => by
    rw [opsP] at e
    split at e
    · rename_i t os1 ps1 hw
      split at e
      · rename_i x H os2 ps2 ho
        split at e
        · rename_i s1 os3 ps3 hr
          simp only [Rs.ok.injEq] at e
          obtain ⟨rfl, rfl, rfl⟩ := e
          obtain ⟨hw1, rfl⟩ := wantP_sound hw h.left
          obtain ⟨k1, h1⟩ := opP_sound hC ho h.right.left
          obtain ⟨k2, h2⟩ := opsP_sound hC r _ _ _ _ _ hr h.right.right
          refine ⟨max k1 k2, fun m hm => ?_⟩
          simp only [evOps, hw1, h1 m (by omega)]
          exact h2 m (by omega)
        · cases e
      · cases e
    · rename_i t os1 ps1 hw
      split at e
      · rename_i s1 os3 ps3 hr
        simp only [Rs.ok.injEq] at e
        obtain ⟨rfl, rfl, rfl⟩ := e
        obtain ⟨hw1, rfl⟩ := wantP_sound hw h.left
        obtain ⟨k2, h2⟩ := opsP_sound hC r _ _ _ _ _ hr h.right
        refine ⟨k2, fun m hm => ?_⟩
        simp only [evOps, hw1]
        exact h2 m hm
      · cases e
    · cases e

/-- Quiet ones in a row. -/
def qsP (C : Ctx) (P : Program) (H : List Blk) (ops : Array Oper) : List Oper → List AV → List Or → Rs (List AV)
  | [], t, os => .ok t os []
  | o :: r, t, os => match wantP ops t o os with
    | .ok (true, t) os1 ps1 => match opQP C P t H o os1 with
      | some (x, os2, ps2) => match qsP C P H ops r (put t o.dst x) os2 with
        | .ok t' os3 ps3 => .ok t' os3 (ps1 ++ (ps2 ++ ps3))
        | .no q => .no q
      | none => .no (.op o t H)
    | .ok (false, t) os1 ps1 => match qsP C P H ops r (put t o.dst (.v undef)) os1 with
      | .ok t' os3 ps3 => .ok t' os3 (ps1 ++ ps3)
      | .no q => .no q
    | .no q => .no q
theorem qsP_sound {H : List Blk} {ops : Array Oper} : ∀ (l : List Oper) (t t' : List AV) (os os' : List Or) (ps : List Prop), qsP C P H ops l t os = .ok t' os' ps → All ps → ∃ xs, evQs C P H ops l t = some (xs, t')
  | [], t, t', os, os', ps, e, h => by
    simp only [qsP, Rs.ok.injEq] at e
    obtain ⟨rfl, _, _⟩ := e
    exact ⟨_, rfl⟩
  | o :: r, t, t', os, os', ps, e, h => by
    rw [qsP] at e
    split at e
    · rename_i t1 os1 ps1 hw
      split at e
      · rename_i x os2 ps2 ho
        split at e
        · rename_i s1 os3 ps3 hr
          simp only [Rs.ok.injEq] at e
          obtain ⟨rfl, rfl, rfl⟩ := e
          obtain ⟨hw1, rfl⟩ := wantP_sound hw h.left
          obtain ⟨xs, hx⟩ := qsP_sound r _ _ _ _ _ hr h.right.right
          exact ⟨x :: xs, by simp only [evQs, hw1, opQP_sound ho h.right.left, hx]⟩
        · cases e
      · cases e
    · rename_i t1 os1 ps1 hw
      split at e
      · rename_i s1 os3 ps3 hr
        simp only [Rs.ok.injEq] at e
        obtain ⟨rfl, rfl, rfl⟩ := e
        obtain ⟨hw1, rfl⟩ := wantP_sound hw h.left
        obtain ⟨xs, hx⟩ := qsP_sound r _ _ _ _ _ hr h.right
        exact ⟨.v undef :: xs, by simp only [evQs, hw1, hx]⟩
      · cases e
    · cases e
/-- One that is not quiet behind quiet ones: the row is not quiet. -/
theorem evQs_none {H : List Blk} {ops : Array Oper} {o : Oper} {rest : List Oper} : ∀ (l : List Oper) (t t' : List AV) (xs : List AV), evQs C P H ops l t = some (xs, t') → wantA ops t' o = some true → evOpQ C P t' H o = none → evQs C P H ops (l ++ o :: rest) t = none
  | [], t, t', xs, e, hw, ho => by
    simp only [evQs, Option.some.injEq, Prod.mk.injEq] at e
    obtain ⟨_, rfl⟩ := e
    show evQs C P H ops (o :: rest) t = none
    simp only [evQs, hw, ho]
  | p :: r, t, t', xs, e, hw, ho => by
    simp only [evQs] at e
    show evQs C P H ops (p :: (r ++ o :: rest)) t = none
    simp only [evQs]
    cases h1 : wantA ops t p with
    | none => rfl
    | some b =>
      rw [h1] at e
      cases b with
      | true =>
        simp only at e ⊢
        cases h2 : evOpQ C P t H p with
        | none => rfl
        | some y =>
          rw [h2] at e
          simp only at e ⊢
          cases h3 : evQs C P H ops r (put t p.dst y) with
          | none => rw [h3] at e; cases e
          | some q =>
            obtain ⟨ys, t1⟩ := q
            rw [h3] at e
            simp only [Option.some.injEq, Prod.mk.injEq] at e
            obtain ⟨_, rfl⟩ := e
            rw [evQs_none r _ _ _ h3 hw ho]
      | false =>
        simp only at e ⊢
        cases h3 : evQs C P H ops r (put t p.dst (.v undef)) with
        | none => rw [h3] at e; cases e
        | some q =>
          obtain ⟨ys, t1⟩ := q
          rw [h3] at e
          simp only [Option.some.injEq, Prod.mk.injEq] at e
          obtain ⟨_, rfl⟩ := e
          rw [evQs_none r _ _ _ h3 hw ho]

theorem quietOp_sound {tmps : List AV} {H : List Blk} {o : Oper} (h : quietOp C tmps o = false) : evOpQ C P tmps H o = none := by
  unfold quietOp at h
  split at h <;> first | cases h; done | (rename_i ho; simp only [evOpQ, ho]; done) | skip
  rename_i c ho
  split at h
  · rename_i hc; simp only [evOpQ, ho, hc]
  · rename_i f hc
    split at h
    · rename_i n caps hf
      have : C.m n = none := by cases hm : C.m n with | none => rfl | some _ => rw [hm] at h; cases h
      simp only [evOpQ, ho, hc, hf, callMA_none this]
    · cases h
  · cases h

/-- A drawn region that writes, in the text's order. -/
def dP (C : Ctx) (P : Program) (call : Nat → List AV → List Blk → List Or → Rs (AV × List Blk)) (ops : Array Oper) (f : Option Nat) : Nat → List Oper → Ds → List Or → Rs Ds
  | _, [], d, os => .ok d os []
  | k, o :: r, d, os => match wantP ops d.tmps o os with
    | .ok (true, t) os1 ps1 => match quietOp C [] o with
      | true => match opQP C P t (d.q (waitsF C ops.toList k o)) o os1 with
        | some (x, os2, ps2) => match dP C P call ops f (k + 1) r ⟨put t o.dst x, d.H, d.pre⟩ os2 with
          | .ok d' os3 ps3 => .ok d' os3 (ps1 ++ (ps2 ++ ps3))
          | .no q => .no q
        | none => .no (.op o t d.H)
      | false => match opP C P call t d.H o os1 with
        | .ok (x, H') os2 ps2 => match dP C P call ops f (k + 1) r ⟨put t o.dst x, H', if f == some k then some d.H else none⟩ os2 with
          | .ok d' os3 ps3 => .ok d' os3 (ps1 ++ (ps2 ++ ps3))
          | .no q => .no q
        | .no q => .no q
    | .ok (false, t) os1 ps1 => match dP C P call ops f (k + 1) r ⟨put t o.dst (.v undef), d.H, if quietOp C [] o then d.pre else none⟩ os1 with
      | .ok d' os3 ps3 => .ok d' os3 (ps1 ++ ps3)
      | .no q => .no q
    | .no q => .no q
theorem dP_sound {call : Nat → List AV → List Blk → List Or → Rs (AV × List Blk)} (hC : CallP C P call) {ops : Array Oper} : ∀ (l : List Oper) (k : Nat) (d d' : Ds) (os os' : List Or) (ps : List Prop), dP C P call ops (floatAt C ops.toList) k l d os = .ok d' os' ps → All ps → ∃ n, ∀ m, n ≤ m → evD C P (evFn C (evCode C P m)) ops k l d = some d'
  | [], k, d, d', os, os', ps, e, h => by
    simp only [dP, Rs.ok.injEq] at e
    obtain ⟨rfl, _, _⟩ := e
    exact ⟨0, fun m _ => rfl⟩
  | o :: r, k, d, d', os, os', ps, e, h => by
    rw [dP] at e
    split at e
    · rename_i t os1 ps1 hw
      split at e
      · rename_i hq
        split at e
        · rename_i x os2 ps2 ho
          split at e
          · rename_i d1 os3 ps3 hr
            simp only [Rs.ok.injEq] at e
            obtain ⟨rfl, rfl, rfl⟩ := e
            obtain ⟨hw1, rfl⟩ := wantP_sound hw h.left
            obtain ⟨n, hn⟩ := dP_sound hC r _ _ _ _ _ _ hr h.right.right
            refine ⟨n, fun m hm => ?_⟩
            simp only [evD, stD, hw1, hq, opQP_sound ho h.right.left]
            exact hn m hm
          · cases e
        · cases e
      · rename_i hq
        split at e
        · rename_i x H' os2 ps2 ho
          split at e
          · rename_i d1 os3 ps3 hr
            simp only [Rs.ok.injEq] at e
            obtain ⟨rfl, rfl, rfl⟩ := e
            obtain ⟨hw1, rfl⟩ := wantP_sound hw h.left
            obtain ⟨n1, h1⟩ := opP_sound hC ho h.right.left
            obtain ⟨n, hn⟩ := dP_sound hC r _ _ _ _ _ _ hr h.right.right
            refine ⟨max n1 n, fun m hm => ?_⟩
            simp only [evD, stD, hw1, hq, h1 m (by omega)]
            exact hn m (by omega)
          · cases e
        · cases e
    · rename_i t os1 ps1 hw
      split at e
      · rename_i d1 os3 ps3 hr
        simp only [Rs.ok.injEq] at e
        obtain ⟨rfl, rfl, rfl⟩ := e
        obtain ⟨hw1, rfl⟩ := wantP_sound hw h.left
        obtain ⟨n, hn⟩ := dP_sound hC r _ _ _ _ _ _ hr h.right
        refine ⟨n, fun m hm => ?_⟩
        simp only [evD, stD, hw1]
        exact hn m hm
      · cases e
    · cases e
/-- A drawn region on a way. -/
def drawP (C : Ctx) (P : Program) (call : Nat → List AV → List Blk → List Or → Rs (AV × List Blk)) (ops : Array Oper) (s : St) (os : List Or) : Rs St :=
  match oldOk C ops.toList with
  | false => match newOk C ops.toList with
    | false => match twoOk C ops.toList with
      | false => .no .draw
      | true => match qsP C P s.H ops (ops.toList.take (cutAt C ops.toList)) s.tmps os with
        | .ok t os1 ps1 => match hbAt s.H.length t (ops.toList.take (cutAt C ops.toList)) with
          | true => match opsP C P call ops (ops.toList.drop (cutAt C ops.toList)) ⟨t, s.H, s.base⟩ os1 with
            | .ok s' os2 ps2 => .ok s' os2 (ps1 ++ ps2)
            | .no q => .no q
          | false => .no .draw
        | .no q => .no q
    | true => match dP C P call ops (floatAt C ops.toList) 0 ops.toList ⟨s.tmps, s.H, none⟩ os with
      | .ok d os' ps => .ok ⟨d.tmps, d.H, s.base⟩ os' ps
      | .no q => .no q
  | true => match ops.toList.drop (cutAt C ops.toList) with
    | [] => match qsP C P s.H ops ops.toList s.tmps os with
      | .ok t os' ps => .ok ⟨t, s.H, s.base⟩ os' ps
      | .no q => .no q
    | o :: r => match o.guard with
        | some _ => .no .draw
        | none => match qsP C P s.H ops (ops.toList.take (cutAt C ops.toList)) s.tmps os with
          | .ok t os1 ps1 => match opsP C P call ops (o :: r) ⟨t, s.H, s.base⟩ os1 with
            | .ok s' os2 ps2 => .ok s' os2 (ps1 ++ ps2)
            | .no q => .no q
          | .no q => .no q
theorem cutAt_head {C : Ctx} {o : Oper} {r : List Oper} : ∀ l : List Oper, l.drop (cutAt C l) = o :: r → quietOp C [] o = false
  | [], h => by simp [cutAt] at h
  | p :: l, h => by
    unfold cutAt at h
    cases hq : quietOp C [] p with
    | true => rw [hq] at h; exact cutAt_head l (by simpa using h)
    | false => rw [hq] at h; simp at h; rw [← h.1]; exact hq
theorem quietOp_nil {tmps : List AV} {o : Oper} (h : quietOp C [] o = false) : quietOp C tmps o = false := by
  unfold quietOp at h
  split at h <;> first | (rename_i ho; simp only [quietOp, ho]; done) | skip
  · rename_i c ho
    split at h
    · rename_i hc; simp only [quietOp, ho, hc]
    · rename_i f hc
      simp only [quietOp, ho, hc]
      cases f with
      | tmp t => simp [evA] at h
      | const _ => simp [evA] at h
      | global _ => simp [evA] at h
      | func n => exact h
    · cases h
  · cases h
theorem drawP_sound {call : Nat → List AV → List Blk → List Or → Rs (AV × List Blk)} (hC : CallP C P call) {ops : Array Oper} {s s' : St} {os os' : List Or} {ps : List Prop} (e : drawP C P call ops s os = .ok s' os' ps) (h : All ps) : ∃ k, ∀ m, k ≤ m → evDraw C P (evFn C (evCode C P m)) ops s = some s' := by
  unfold drawP at e
  split at e
  · rename_i hold
    split at e
    · rename_i hnew
      split at e
      · cases e
      · rename_i htwo
        split at e
        · rename_i t os1 ps1 hq
          split at e
          · rename_i hhb
            split at e
            · rename_i s1 os2 ps2 hr
              simp only [Rs.ok.injEq] at e
              obtain ⟨rfl, rfl, rfl⟩ := e
              obtain ⟨xs, hx⟩ := qsP_sound _ _ _ _ _ _ hq h.left
              obtain ⟨k, hk⟩ := opsP_sound hC _ _ _ _ _ _ hr h.right
              refine ⟨k, fun m hm => ?_⟩
              simp only [evDraw, hold, hnew, htwo, hx, hhb]
              exact hk m hm
            · cases e
          · cases e
        · cases e
    · rename_i hnew
      split at e
      · rename_i d os1 ps1 hd
        simp only [Rs.ok.injEq] at e
        obtain ⟨rfl, rfl, rfl⟩ := e
        obtain ⟨n, hn⟩ := dP_sound hC _ _ _ _ _ _ _ hd h
        refine ⟨n, fun m hm => ?_⟩
        simp only [evDraw, hold, hnew, hn m hm]
      · cases e
  · rename_i hd
    split at e
    · split at e
      · rename_i t os1 ps1 hq
        simp only [Rs.ok.injEq] at e
        obtain ⟨rfl, rfl, rfl⟩ := e
        obtain ⟨xs, hx⟩ := qsP_sound _ _ _ _ _ _ hq h
        refine ⟨0, fun m _ => ?_⟩
        simp only [evDraw, hd, hx]
      · cases e
    · rename_i o r hl
      split at e
      · cases e
      · rename_i hg
        split at e
        · rename_i t os1 ps1 hq
          split at e
          · rename_i s1 os2 ps2 hr
            simp only [Rs.ok.injEq] at e
            obtain ⟨rfl, rfl, rfl⟩ := e
            obtain ⟨xs, hx⟩ := qsP_sound _ _ _ _ _ _ hq h.left
            obtain ⟨k, hk⟩ := opsP_sound hC _ _ _ _ _ _ hr h.right
            have hall : evQs C P s.H ops ops.toList s.tmps = none := by
              have := evQs_none (rest := r) _ _ _ _ hx (by simp only [wantA, hg]) (quietOp_sound (quietOp_nil (cutAt_head _ hl)))
              rwa [← hl, List.take_append_drop] at this
            refine ⟨k, fun m hm => ?_⟩
            simp only [evDraw, hd, hall, hx]
            rw [hl]
            exact hk m hm
          · cases e
        · cases e

/-- A function on a way, by a way to run code. -/
def fnP (C : Ctx) (run : Code → St → List Or → Rs (Ex × St)) (f : Nat) (args : List AV) (H : List Blk) (os : List Or) : Rs (AV × List Blk) :=
  match C.fn f with
  | none => .no (.fn f)
  | some fn => match fn.body with
    | none => .no (.fn f)
    | some c => match run c ⟨args ++ List.replicate (fn.ntmps - args.length) .any, H, H.length⟩ os with
      | .ok (.norm, s) os' ps | .ok (.ret, s) os' ps => match resA C s.tmps s.H fn.results.toList with
        | some [x] => .ok (x, s.H) os' ps
        | some xs => .ok (.tup xs, s.H) os' ps
        | none => .no (.fn f)
      | .ok (.exit _, _) _ _ => .no (.fn f)
      | .no q => .no q

/-- Code on a way. -/
def codeP (C : Ctx) (P : Program) : Nat → Code → St → List Or → Rs (Ex × St)
  | 0, _, _, _ => .no .out
  | n + 1, .skip, s, os => .ok (.norm, s) os []
  | n + 1, .label _, s, os => .ok (.norm, s) os []
  | n + 1, .region _ ops false, s, os => match opsP C P (fnP C (codeP C P n)) ops ops.toList s os with
    | .ok s' os' ps => .ok (.norm, s') os' ps
    | .no q => .no q
  | n + 1, .region _ ops true, s, os => match drawP C P (fnP C (codeP C P n)) ops s os with
    | .ok s' os' ps => .ok (.norm, s') os' ps
    | .no q => .no q
  | n + 1, .seq a b, s, os => match os with
    | .j e s1 :: os' => match e with
      | .norm => match codeP C P n b s1 os' with
        | .ok r os2 ps2 => .ok r os2 (Runs C P a s .norm s1 :: ps2)
        | .no q => .no q
      | e => .ok (e, s1) os' [Runs C P a s e s1]
    | .k :: os' => match codeP C P n a s os' with
      | .ok (.norm, s') os1 ps1 => match codeP C P n b s' os1 with
        | .ok r os2 ps2 => .ok r os2 (ps1 ++ ps2)
        | .no q => .no q
      | r => r
    | os => match codeP C P n a s os with
      | .ok (.norm, s') os1 ps1 => match codeP C P n b s' os1 with
        | .ok r os2 ps2 => .ok r os2 (ps1 ++ ps2)
        | .no q => .no q
      | r => r
  | n + 1, .cond c x y, s, os => match evA s.tmps c with
    | .v (.bool t) => match os with
      | .t true :: os' => match codeP C P n x s os' with
        | .ok r os1 ps => .ok r os1 ((t = true) :: ps)
        | .no q => .no q
      | .t false :: os' => match codeP C P n y s os' with
        | .ok r os1 ps => .ok r os1 ((t = false) :: ps)
        | .no q => .no q
      | _ => .no (.test t)
    | _ => .no .code
  | n + 1, .block id c, s, os => match codeP C P n c s os with
    | .ok (.exit i, s') os1 ps => .ok ((match decide (i = id) with | true => .norm | false => .exit i), s') os1 ps
    | r => r
  | n + 1, .loop c, s, os => match os with
    | .l e s' :: os' => .ok (e, s') os' [LRuns C P c (head C.kl c s) e s']
    | .u :: os' => match codeP C P n c (head C.kl c s) os' with
      | .ok (.norm, s1) os1 ps1 => match codeP C P n (.loop c) (clean s.H.length s1) os1 with
        | .ok r os2 ps2 => .ok r os2 (ps1 ++ ps2)
        | .no q => .no q
      | .ok (.exit i, s1) os1 ps1 => .ok (.exit i, leave C.kl c s.H.length s1) os1 ps1
      | .ok (.ret, s1) os1 ps1 => .ok (.ret, leave C.kl c s.H.length s1) os1 ps1
      | .no q => .no q
    | _ => .no (.loop c s)
  | n + 1, .exit id, s, os => .ok (.exit id, s) os []
  | n + 1, .ret, s, os => .ok (.ret, s) os []
  | n + 1, .scope c, s, os => codeP C P n c s os
  | n + 1, _, _, _ => .no .code

theorem fnP_sound {run : Code → St → List Or → Rs (Ex × St)} (hR : ∀ c s os e s' os' ps, run c s os = .ok (e, s') os' ps → All ps → Runs C P c s e s') : CallP C P (fnP C run) := by
  intro n args H os r H' os' ps h hp
  unfold fnP at h
  split at h
  · cases h
  · rename_i fn hf
    split at h
    · cases h
    · rename_i c hb
      have key : ∀ (e : Ex) (s : St), e = .norm ∨ e = .ret → Runs C P c ⟨args ++ List.replicate (fn.ntmps - args.length) .any, H, H.length⟩ e s → (match resA C s.tmps s.H fn.results.toList with | some [x] => some (x, s.H) | some xs => some (.tup xs, s.H) | none => none) = some (r, H') → Fn C P n args H r H' := by
        rintro e s he ⟨k, hk⟩ hr
        refine ⟨k, ?_⟩
        unfold evFn
        simp only [hf, hb, hk]
        rcases he with rfl | rfl <;> exact hr
      split at h
      · rename_i s os1 ps1 hc
        split at h <;> (try cases h; done) <;>
        · rename_i hr
          simp only [Rs.ok.injEq, Prod.mk.injEq] at h
          obtain ⟨⟨rfl, rfl⟩, rfl, rfl⟩ := h
          exact key _ _ (.inl rfl) (hR _ _ _ _ _ _ _ hc hp) (by simp only [hr])
      · rename_i s os1 ps1 hc
        split at h <;> (try cases h; done) <;>
        · rename_i hr
          simp only [Rs.ok.injEq, Prod.mk.injEq] at h
          obtain ⟨⟨rfl, rfl⟩, rfl, rfl⟩ := h
          exact key _ _ (.inr rfl) (hR _ _ _ _ _ _ _ hc hp) (by simp only [hr])
      · cases h
      · cases h

theorem codeP_sound : ∀ (n : Nat) (c : Code) (s : St) (os : List Or) (e : Ex) (s' : St) (os' : List Or) (ps : List Prop), codeP C P n c s os = .ok (e, s') os' ps → All ps → Runs C P c s e s' := by
  intro n
  induction n with
  | zero => intro c s os e s' os' ps h hp; simp [codeP] at h
  | succ n ih =>
    intro c s os e s' os' ps h hp
    have hC : CallP C P (fnP C (codeP C P n)) := fnP_sound ih
    cases c with
    | skip =>
      simp only [codeP, Rs.ok.injEq, Prod.mk.injEq] at h
      obtain ⟨⟨rfl, rfl⟩, _, _⟩ := h
      exact ⟨1, rfl⟩
    | label l =>
      simp only [codeP, Rs.ok.injEq, Prod.mk.injEq] at h
      obtain ⟨⟨rfl, rfl⟩, _, _⟩ := h
      exact ⟨1, rfl⟩
    | region id ops d =>
      cases d with
      | true =>
        rw [codeP] at h
        split at h
        · rename_i s1 os1 ps1 hd
          simp only [Rs.ok.injEq, Prod.mk.injEq] at h
          obtain ⟨⟨rfl, rfl⟩, rfl, rfl⟩ := h
          obtain ⟨k, hk⟩ := drawP_sound hC hd hp
          exact ⟨k + 1, by rw [evCode, hk k (Nat.le_refl _)]⟩
        · cases h
      | false =>
        rw [codeP] at h
        split at h
        · rename_i s1 os1 ps1 hd
          simp only [Rs.ok.injEq, Prod.mk.injEq] at h
          obtain ⟨⟨rfl, rfl⟩, rfl, rfl⟩ := h
          obtain ⟨k, hk⟩ := opsP_sound hC _ _ _ _ _ _ hd hp
          exact ⟨k + 1, by rw [evCode, hk k (Nat.le_refl _)]⟩
        · cases h
    | seq x y =>
      have old : ∀ os0, (match codeP C P n x s os0 with
          | .ok (.norm, s') os1 ps1 => match codeP C P n y s' os1 with
            | .ok r os2 ps2 => Rs.ok r os2 (ps1 ++ ps2)
            | .no q => .no q
          | r => r) = .ok (e, s') os' ps → Runs C P (.seq x y) s e s' := fun os0 h => by
        split at h
        · rename_i s1 os1 ps1 h1
          split at h
          · rename_i r os2 ps2 h2
            simp only [Rs.ok.injEq] at h
            obtain ⟨rfl, rfl, rfl⟩ := h
            exact Runs.seq (ih _ _ _ _ _ _ _ h1 hp.left) (ih _ _ _ _ _ _ _ h2 hp.right)
          · cases h
        · rename_i hne
          exact Runs.seq_out (ih _ _ _ _ _ _ _ h hp) (fun q => by subst q; exact hne _ _ _ h)
      cases os with
      | nil => rw [codeP] at h; exact old [] h; all_goals (intros; simp_all)
      | cons o os1 =>
        cases o with
        | j e1 s1 =>
          cases e1 with
          | norm =>
            simp only [codeP] at h
            split at h
            · rename_i r os2 ps2 h2
              simp only [Rs.ok.injEq] at h
              obtain ⟨rfl, rfl, rfl⟩ := h
              exact Runs.seq hp.head (ih _ _ _ _ _ _ _ h2 hp.tail)
            · cases h
          | exit i =>
            simp only [codeP, Rs.ok.injEq, Prod.mk.injEq] at h
            obtain ⟨⟨rfl, rfl⟩, rfl, rfl⟩ := h
            exact Runs.seq_out hp.head (fun q => by cases q)
          | ret =>
            simp only [codeP, Rs.ok.injEq, Prod.mk.injEq] at h
            obtain ⟨⟨rfl, rfl⟩, rfl, rfl⟩ := h
            exact Runs.seq_out hp.head (fun q => by cases q)
        | k => rw [codeP] at h; exact old os1 h
        | _ => rw [codeP] at h; exact old _ h; all_goals (intros; simp_all)
    | cond c x y =>
      rw [codeP] at h
      split at h
      · rename_i t hc
        split at h
        · split at h
          · rename_i r os1 ps1 h1
            simp only [Rs.ok.injEq] at h
            obtain ⟨rfl, rfl, rfl⟩ := h
            have ht := hp.head
            subst ht
            exact Runs.cond hc (ih _ _ _ _ _ _ _ h1 hp.tail)
          · cases h
        · split at h
          · rename_i r os1 ps1 h1
            simp only [Rs.ok.injEq] at h
            obtain ⟨rfl, rfl, rfl⟩ := h
            have ht := hp.head
            subst ht
            exact Runs.cond hc (ih _ _ _ _ _ _ _ h1 hp.tail)
          · cases h
        · cases h
      · cases h
    | block id c =>
      rw [codeP] at h
      split at h
      · rename_i i s1 os1 ps1 h1
        simp only [Rs.ok.injEq, Prod.mk.injEq] at h
        obtain ⟨⟨rfl, rfl⟩, rfl, rfl⟩ := h
        have := Runs.block (id := id) (ih _ _ _ _ _ _ _ h1 hp)
        simp only at this
        by_cases hi : i = id
        · simp only [hi, if_true] at this; simpa [hi] using this
        · simp only [hi, if_false] at this; simpa [hi] using this
      · rename_i hne
        have := Runs.block (id := id) (ih _ _ _ _ _ _ _ h hp)
        cases e with
        | exit i => exact absurd h (hne _ _ _ _)
        | norm => exact this
        | ret => exact this
    | loop c =>
      cases os with
      | nil => simp [codeP] at h
      | cons o os =>
        cases o with
        | l =>
          simp only [codeP, Rs.ok.injEq, Prod.mk.injEq] at h
          obtain ⟨⟨rfl, rfl⟩, rfl, rfl⟩ := h
          exact LRuns.runs hp.head
        | u =>
          simp only [codeP] at h
          split at h
          · rename_i s1 os1 ps1 h1
            split at h
            · rename_i r os2 ps2 h2
              simp only [Rs.ok.injEq] at h
              obtain ⟨rfl, rfl, rfl⟩ := h
              obtain ⟨a, ha⟩ := ih _ _ _ _ _ _ _ h1 hp.left
              obtain ⟨b, hb⟩ := ih _ _ _ _ _ _ _ h2 hp.right
              refine ⟨max a b + 1, ?_⟩
              rw [evCode, evCode_le (Nat.le_max_left a b) ha]
              exact evCode_le (Nat.le_max_right a b) hb
            · cases h
          · rename_i i s1 os1 ps1 h1
            simp only [Rs.ok.injEq, Prod.mk.injEq] at h
            obtain ⟨⟨rfl, rfl⟩, rfl, rfl⟩ := h
            obtain ⟨a, ha⟩ := ih _ _ _ _ _ _ _ h1 hp
            exact ⟨a + 1, by rw [evCode, ha]⟩
          · rename_i s1 os1 ps1 h1
            simp only [Rs.ok.injEq, Prod.mk.injEq] at h
            obtain ⟨⟨rfl, rfl⟩, rfl, rfl⟩ := h
            obtain ⟨a, ha⟩ := ih _ _ _ _ _ _ _ h1 hp
            exact ⟨a + 1, by rw [evCode, ha]⟩
          · cases h
        | _ => simp only [codeP, reduceCtorEq] at h
    | exit i =>
      simp only [codeP, Rs.ok.injEq, Prod.mk.injEq] at h
      obtain ⟨⟨rfl, rfl⟩, _, _⟩ := h
      exact ⟨1, rfl⟩
    | ret =>
      simp only [codeP, Rs.ok.injEq, Prod.mk.injEq] at h
      obtain ⟨⟨rfl, rfl⟩, _, _⟩ := h
      exact ⟨1, rfl⟩
    | scope c => rw [codeP] at h; exact Runs.scope (ih _ _ _ _ _ _ _ h hp)
    | rangeFunc f qs as b => simp [codeP] at h
    | goto l => simp [codeP] at h
    | refuse y => simp [codeP] at h

/-- A function by a way. -/
theorem Fn.way {n f : Nat} {args : List AV} {H H' : List Blk} {os : List Or} {r : AV} {ps : List Prop} (e : fnP C (codeP C P n) f args H os = .ok (r, H') [] ps) (h : All ps) : Fn C P f args H r H' :=
  fnP_sound (codeP_sound n) _ _ _ _ _ _ _ _ e h
theorem Runs.way {n : Nat} {c : Code} {s s' : St} {os : List Or} {e : Ex} {ps : List Prop} (q : codeP C P n c s os = .ok (e, s') [] ps) (h : All ps) : Runs C P c s e s' :=
  codeP_sound n _ _ _ _ _ _ _ q h
end Go.Proofs.YtalkodandfjkmaaDoor.Av

/- Functions as wholes: what a function answers, taken as a summary where it is called. -/
set_option linter.unusedVariables false
set_option linter.unusedSimpArgs false
namespace Go.Proofs.YtalkodandfjkmaaDoor.Av
open Go Go.RowKit
variable {P : Program} {C : Ctx} {G : World → Prop}

theorem Fn.unique {f : Nat} {args : List AV} {H H1 H2 : List Blk} {r1 r2 : AV} (h : Fn C P f args H r1 H1) (k : Fn C P f args H r2 H2) : r1 = r2 ∧ H1 = H2 := by
  obtain ⟨n, h⟩ := h
  obtain ⟨m, k⟩ := k
  have a := evFn_le (Nat.le_max_left n m) _ _ _ _ h
  have b := evFn_le (Nat.le_max_right n m) _ _ _ _ k
  rw [a] at b
  simpa using b

open Classical in
/-- What a function answers, whatever it takes. -/
noncomputable def whole (C : Ctx) (P : Program) (f : Nat) (args : List AV) : Option (AV × List Blk) :=
  if h : ∃ r : AV × List Blk, Fn C P f args [] r.1 r.2 then some (Classical.choose h) else none
theorem whole_eq {f : Nat} {args : List AV} {r : AV} {H : List Blk} (h : Fn C P f args [] r H) : whole C P f args = some (r, H) := by
  have hx : ∃ r : AV × List Blk, Fn C P f args [] r.1 r.2 := ⟨(r, H), h⟩
  unfold whole
  rw [dif_pos hx]
  have := (Classical.choose_spec hx).unique h
  exact congrArg some (Prod.ext this.1 this.2)
theorem whole_fn {f : Nat} {args : List AV} {r : AV} {H : List Blk} (h : whole C P f args = some (r, H)) : Fn C P f args [] r H := by
  unfold whole at h
  split at h
  · rename_i hx
    have := Classical.choose_spec hx
    rw [Option.some.inj h] at this
    exact this
  · cases h
theorem whole_models (hM : P.follows .mixedOrders = true) (hK : CtxOk P C G) (hG : ∀ w w', G w → Below w.heap.size w w' → G w') (f : Nat) : Models P G f (whole C P f) := by
  intro S w as vs r Hr hvs himm hg e
  obtain ⟨n, hn⟩ := whole_fn e
  exact models_of hM hK hG n f S w as vs r Hr hvs himm hg hn

/-- By value. -/
noncomputable def wholeV (C : Ctx) (P : Program) (f : Nat) (args : List AV) : Option (AV × List Blk) :=
  match whole C P f args with
  | some (r, H) => match AV.val H r with
    | some y => some (y, [])
    | none => none
  | none => none
/-- A list of its own. -/
noncomputable def wholeO (C : Ctx) (P : Program) (f : Nat) (args : List AV) : Option (AV × List Blk) :=
  match whole C P f args with
  | some (.own id ver, H) => match H[id]? with
    | some (.grow e sz v true es) => if ver = v then some (.own 0 0, [.grow e sz 0 true es]) else none
    | _ => none
  | _ => none
/-- What a function answers, by value; a list of its own. -/
def FnV (C : Ctx) (P : Program) (f : Nat) (args : List AV) (y : AV) : Prop := ∃ r H, Fn C P f args [] r H ∧ AV.val H r = some y
def FnO (C : Ctx) (P : Program) (f : Nat) (args : List AV) (e sz : Nat) (es : List (List AV)) : Prop := ∃ id ver H, Fn C P f args [] (.own id ver) H ∧ H[id]? = some (.grow e sz ver true es)
theorem FnV.eq {f : Nat} {args : List AV} {y : AV} (h : FnV C P f args y) : wholeV C P f args = some (y, []) := by
  obtain ⟨r, H, h, hv⟩ := h
  simp only [wholeV, whole_eq h, hv]
theorem FnO.eq {f : Nat} {args : List AV} {e sz : Nat} {es : List (List AV)} (h : FnO C P f args e sz es) : wholeO C P f args = some (.own 0 0, [.grow e sz 0 true es]) := by
  obtain ⟨id, ver, H, h, hv⟩ := h
  simp only [wholeO, whole_eq h, hv, if_true]
theorem FnV.of {f : Nat} {args : List AV} {r y : AV} {H : List Blk} (h : Fn C P f args [] r H) (hv : AV.val H r = some y) : FnV C P f args y := ⟨r, H, h, hv⟩
theorem FnO.of {f : Nat} {args : List AV} {id ver e sz : Nat} {es : List (List AV)} {H : List Blk} (h : Fn C P f args [] (.own id ver) H) (hv : H[id]? = some (.grow e sz ver true es)) : FnO C P f args e sz es := ⟨id, ver, H, h, hv⟩
theorem FnV.unique {f : Nat} {args : List AV} {y z : AV} (h : FnV C P f args y) (k : FnV C P f args z) : y = z := by
  have := h.eq.symm.trans k.eq
  simpa using this

theorem wholeV_models (hM : P.follows .mixedOrders = true) (hK : CtxOk P C G) (hG : ∀ w w', G w → Below w.heap.size w w' → G w') (f : Nat) : Models P G f (wholeV C P f) := by
  intro S w as vs r Hr hvs himm hg e
  unfold wholeV at e
  split at e
  · rename_i r0 H0 hw
    split at e
    · rename_i y hy
      simp only [Option.some.injEq, Prod.mk.injEq] at e
      obtain ⟨rfl, rfl⟩ := e
      refine (whole_models hM hK hG f S w as vs r0 H0 hvs himm hg hw).mono ?_
      rintro e w' ⟨u, S', plr, rfl, hS, hnew, hW, hR⟩
      refine ⟨u, lend S' H0 plr w', fun _ => none, rfl, Sto.le_trans hS (lend_le hW), fun a v e hb => ?_, ⟨⟨fun k cs e => by simp at e, fun k e sz ver bv es q => by simp at q, fun k k' b l => by obtain ⟨⟨x, hx, _⟩, _⟩ := l; simp at hx, fun a u e k l => by obtain ⟨⟨x, hx, _⟩, _⟩ := l; simp at hx⟩, lend_imm hW, hW.below, hW.base, hW.g⟩, .val _ _ (val_rep hW _ hy hR)⟩
      unfold lend at e
      split at e
      · rename_i hl
        obtain ⟨k, l⟩ := hl
        have := (hW.h.lt l).1
        omega
      · exact hnew a v e hb
    · cases e
  · cases e
theorem wholeO_models (hM : P.follows .mixedOrders = true) (hK : CtxOk P C G) (hG : ∀ w w', G w → Below w.heap.size w w' → G w') (f : Nat) : Models P G f (wholeO C P f) := by
  intro S w as vs r Hr hvs himm hg e
  unfold wholeO at e
  split at e
  · rename_i id ver H0 hw
    split at e
    · rename_i e0 sz v es hH
      split at e
      · rename_i hv
        subst hv
        simp only [Option.some.injEq, Prod.mk.injEq] at e
        obtain ⟨rfl, rfl⟩ := e
        refine (whole_models hM hK hG f S w as vs _ H0 hvs himm hg hw).mono ?_
        rintro e w' ⟨u, S', plr, rfl, hS, hnew, hW, hR⟩
        have hl : ∀ k b, live [Blk.grow e0 sz 0 true es] (fun _ => plr id) k b → k = 0 ∧ live H0 plr id b := fun k b ⟨⟨x, hx, hl⟩, hc⟩ => by
          cases k with
          | zero => exact ⟨rfl, ⟨_, hH, trivial⟩, hc⟩
          | succ k => simp at hx
        refine ⟨u, S', fun _ => plr id, rfl, hS, hnew, ⟨⟨fun k cs hk => ?_, fun k e' sz' ver' bv es' hk => ?_, fun k k' b l l' => (hl k b l).1.trans (hl k' b l').1.symm, fun a u ha k l => hW.h.sep a u ha id (hl k _ l).2⟩, hW.imm, hW.below, hW.base, hW.g⟩, ?_⟩
        · cases k <;> simp at hk
        · cases k with
          | succ k => simp at hk
          | zero =>
            simp only [List.getElem?_cons_zero, Option.some.injEq, Blk.grow.injEq] at hk
            obtain ⟨rfl, rfl, rfl, rfl, rfl⟩ := hk
            obtain ⟨a1, a2, a3, a4, xs, a5, a6, a7⟩ := hW.h.grow _ _ _ _ _ _ hH
            exact ⟨a1, a2, a3, a4, xs, a5, (hbs_val _ (hbs_flat _ (a4 rfl)) a6).mono fun x u r => .val _ _ r, a7⟩
        · cases hR with
          | val _ _ r => cases r
          | own _ _ _ hi q k =>
            refine .own _ _ _ (by simp) q fun e' sz' v' bv' es' hk => ?_
            simp only [List.getElem?_cons_zero, Option.some.injEq, Blk.grow.injEq] at hk
            obtain ⟨rfl, rfl, rfl, rfl, rfl⟩ := hk
            exact ⟨Nat.le_refl _, fun _ => (k _ _ _ _ _ hH).2 rfl⟩
      · cases e
    · cases e
  · cases e

/-- The functions of two rows are summaries from here on: by value, and lists of their own. -/
noncomputable def up (C : Ctx) (P : Program) (fs os : List Nat) : Ctx :=
  { C with m := fun f => match fs.contains f && (C.fn f).isSome with
    | true => some (wholeV C P f)
    | false => match os.contains f && (C.fn f).isSome with
      | true => some (wholeO C P f)
      | false => C.m f }
theorem CtxOk.up (hM : P.follows .mixedOrders = true) (hK : CtxOk P C G) (hG : ∀ w w', G w → Below w.heap.size w w' → G w') (fs os : List Nat) : CtxOk P (up C P fs os) G := by
  refine ⟨⟨hK.td.one, hK.td.agg, hK.td.sl, hK.td.conc⟩, fun n m h => ?_, hK.eqs, hK.fn⟩
  simp only [Av.up] at h
  split at h
  · rename_i hc
    obtain rfl := Option.some.inj h
    obtain ⟨fn, hf⟩ := Option.isSome_iff_exists.1 (Bool.and_eq_true_iff.1 hc).2
    exact ⟨wholeV_models hM hK hG n, fn, hK.fn n fn hf⟩
  · split at h
    · rename_i hc
      obtain rfl := Option.some.inj h
      obtain ⟨fn, hf⟩ := Option.isSome_iff_exists.1 (Bool.and_eq_true_iff.1 hc).2
      exact ⟨wholeO_models hM hK hG n, fn, hK.fn n fn hf⟩
    · exact hK.m n m h

/-- A call of a summary. -/
theorem callV {C' : Ctx} {n : Nat} {caps args as as' : List AV} {H : List Blk} {y : AV} (hm : C.m n = some (wholeV C' P n)) (hv : AV.vals H (args ++ caps) = some as') (ha : as' = as) (hf : FnV C' P n as y)
    (hb : (y.flo || AV.hbs 0 (args ++ caps)) = true) : callMA C (.fn n caps) args H = some (y, []) := by
  subst ha
  simp only [callMA, hm, hv, hf.eq]
  rw [if_pos (by simpa using hb)]
theorem callO {C' : Ctx} {n e sz : Nat} {caps args as as' : List AV} {H : List Blk} {es : List (List AV)} (hm : C.m n = some (wholeO C' P n)) (hv : AV.vals H (args ++ caps) = some as') (ha : as' = as) (hf : FnO C' P n as e sz es)
    (hb : (es.all AV.flats || AV.hbs 0 (args ++ caps)) = true) : callMA C (.fn n caps) args H = some (.own 0 0, [.grow e sz 0 true es]) := by
  subst ha
  simp only [callMA, hm, hv, hf.eq]
  rw [if_pos (by simpa [AV.flo, Blk.flat] using hb)]
theorem callM {m : List AV → Option (AV × List Blk)} {n : Nat} {caps args bs bs' : List AV} {H Hr : List Blk} {y : AV} (hm : C.m n = some m) (hv : AV.vals H (args ++ caps) = some bs') (ha : bs' = bs) (hf : m bs = some (y, Hr))
    (hb : ((y.flo && Hr.all Blk.flat) || AV.hbs 0 (args ++ caps)) = true) : callMA C (.fn n caps) args H = some (y, Hr) := by
  subst ha
  simp only [callMA, hm, hv, hf]
  rw [if_pos hb]

theorem callMo {m : List AV → Option (AV × List Blk)} {n : Nat} {caps args bs bs' : List AV} {H Hr : List Blk} {y : AV} (hm : C.m n = some m) (hv : AV.vals H (args ++ caps) = some bs') (ha : bs' = bs) (hf : m bs = some (y, Hr))
    (hb : AV.hbs 0 (args ++ caps) = true) : callMA C (.fn n caps) args H = some (y, Hr) := callM hm hv ha hf (by rw [hb, Bool.or_true])
/-- An element of a list; a list with what stands behind its end. -/
def el {α : Type} [Inhabited α] (l : List α) (i : Nat) : α := l.getD i default
def lstOf {α : Type} [Inhabited α] (sz : Nat) (enc : α → List AV) (l s : List α) : AV := .lst sz l.length (l.length + s.length) (nrm (l.length + s.length) fun i => enc (el (l ++ s) i))
/-! The cells of plain things. -/
def eInt (k : IntKind) (n : Int) : List AV := [.v (.int k n)]
def eBool (b : Bool) : List AV := [.v (.bool b)]
def eStr (s : ByteArray) : List AV := [.v (.string s)]
def eLst {α : Type} [Inhabited α] (sz : Nat) (enc : α → List AV) (s l : List α) : List AV := [lstOf sz enc l s]
theorem el_map {α : Type} [Inhabited α] (enc : α → List AV) {l : List α} {i : Nat} (h : i < l.length) : (l.map enc).getD i [] = enc (el l i) := by
  simp [el, List.getD_eq_getElem?_getD, List.getElem?_eq_getElem h]
/-- An own list by value. -/
theorem own_lst {α : Type} [Inhabited α] {sz : Nat} {enc : α → List AV} {l : List α} : AV.lst sz (l.map enc).length (l.map enc).length (fun i => (l.map enc).getD i []) = lstOf sz enc l [] := by
  unfold lstOf
  rw [List.length_map, List.append_nil, List.length_nil, Nat.add_zero]
  congr 1
  funext i
  unfold nrm
  split
  · rename_i h; exact el_map enc h
  · rename_i h
    rw [List.getD_eq_getElem?_getD, List.getElem?_eq_none (by rw [List.length_map]; omega)]
    rfl

/-- The loops of code, those within behind those around. -/
def loopsOf : Code → List Code
  | .seq a b => loopsOf a ++ loopsOf b
  | .cond _ x y => loopsOf x ++ loopsOf y
  | .block _ c => loopsOf c
  | .loop c => c :: loopsOf c
  | .scope c => loopsOf c
  | _ => []
def lp (C : Ctx) (f k : Nat) : Code := match C.fn f with
  | some fn => match fn.body with
    | some c => (loopsOf c).getD k .skip
    | none => .skip
  | none => .skip
/-- Slots: those told, and nothing in all others. -/
def sp (n : Nat) (l : List (Nat × AV)) : List AV := l.foldr (fun p t => t.set p.1 p.2) (List.replicate n .any)

theorem All.tt {ps : List Prop} (h : All ps) : All ((true = true) :: ps) := All.cons rfl h
theorem All.ff {ps : List Prop} (h : All ps) : All ((false = false) :: ps) := All.cons rfl h

/-- A round that ends the loop; one that goes on. -/
def outP (C : Ctx) (P : Program) (n : Nat) (c : Code) (t : St) (os : List Or) : Option (Ex × St × List Prop) := match codeP C P n c t os with
  | .ok (e, s') [] ps => some (e, leave C.kl c t.H.length s', ps)
  | _ => none
def agnP (C : Ctx) (P : Program) (n : Nat) (c : Code) (t : St) (os : List Or) : Option (St × List Prop) := match codeP C P n c t os with
  | .ok (.norm, s1) [] ps => some (head C.kl c (clean t.H.length s1), ps)
  | _ => none
theorem LRuns.out_way {c : Code} {s t : St} {e : Ex} {ps : List Prop} (n : Nat) (os : List Or) (q : outP C P n c s os = some (e, t, ps)) (h : All ps) (he : e ≠ .norm) : LRuns C P c s e t := by
  unfold outP at q
  split at q
  · rename_i e' s' ps' hc
    simp only [Option.some.injEq, Prod.mk.injEq] at q
    obtain ⟨rfl, rfl, rfl⟩ := q
    exact LRuns.out (codeP_sound _ _ _ _ _ _ _ _ hc h) he
  · cases q
theorem LRuns.again_way {c : Code} {s t s' : St} {e : Ex} {ps : List Prop} (n : Nat) (os : List Or) (q : agnP C P n c s os = some (t, ps)) (h : All ps) (k : LRuns C P c t e s') : LRuns C P c s e s' := by
  unfold agnP at q
  split at q
  · rename_i s1 ps' hc
    simp only [Option.some.injEq, Prod.mk.injEq] at q
    obtain ⟨rfl, rfl⟩ := q
    exact LRuns.again (codeP_sound _ _ _ _ _ _ _ _ hc h) k
  · cases q
/-! Small facts that ways ask for. -/
theorem wrap1 {n : Nat} (h : n < 9223372036854775807) : IntKind.i64.wrap ((n : Int) + 1) = ((n + 1 : Nat) : Int) := by
  rw [IntWalk.i64_in _ (by omega)]
  omega
theorem w1 {n : Nat} (h : n < 9223372036854775807) : some (AV.v (.int .i64 (IntKind.i64.wrap ((n : Int) + 1)))) = some (.v (.int .i64 ((n + 1 : Nat) : Int))) := by rw [wrap1 h]
theorem lt_yes {i n : Nat} (h : i < n) : decide ((i : Int) < (n : Int)) = true := decide_eq_true (by omega)
theorem lt_no {i n : Nat} (h : n ≤ i) : decide ((i : Int) < (n : Int)) = false := decide_eq_false (by omega)
theorem in_of {i n : Nat} (h : i < n) : 0 ≤ (i : Int) ∧ (i : Int) < (n : Int) := by omega
theorem el_nil {α : Type} [Inhabited α] (l : List α) (i : Nat) : el (l ++ []) i = el l i := by rw [List.append_nil]
theorem el_left {α : Type} [Inhabited α] {l s : List α} {i : Nat} (h : i < l.length) : el (l ++ s) i = el l i := by
  simp [el, List.getD_eq_getElem?_getD, List.getElem?_append_left h]
theorem drop_el {α : Type} [Inhabited α] {l : List α} {i : Nat} (h : i < l.length) : l.drop i = el l i :: l.drop (i + 1) := by
  rw [List.drop_eq_getElem_cons h]
  simp [el, List.getD_eq_getElem?_getD, List.getElem?_eq_getElem h]
theorem el_mem {α : Type} [Inhabited α] {l : List α} {i : Nat} (h : i < l.length) : el l i ∈ l := by
  rw [el, List.getD_eq_getElem?_getD, List.getElem?_eq_getElem h]
  exact List.getElem_mem h

theorem Runs.congr {c : Code} {s s' t t' : St} {e : Ex} (h : Runs C P c s e s') (h1 : s = t) (h2 : s' = t') : Runs C P c t e t' := h1 ▸ h2 ▸ h
end Go.Proofs.YtalkodandfjkmaaDoor.Av

/- What a row's reading of an argument tells, as the interpreter's values. -/
set_option linter.unusedVariables false
namespace Go.Proofs.YtalkodandfjkmaaDoor.Av
open Go Go.RowKit Go.ChangeShapes Go.WideShapes

/-- What never turns while a law runs: all that is there at first. -/
def sto (w : World) : Sto := fun a => if a.block < w.heap.size then w.cell? a else none
theorem sto_imm {w : World} {a : Addr} {u : Value} (h : sto w a = some u) : w.cell? a = some u := by
  unfold sto at h
  split at h
  · exact h
  · cases h
theorem sto_of {w : World} {a : Addr} {u : Value} (h : w.cell? a = some u) : sto w a = some u := by
  have hb : a.block < w.heap.size := by
    unfold World.cell? at h
    split at h
    · rename_i hb; exact (Array.getElem?_eq_some_iff.1 hb).1
    · cases h
  unfold sto
  rw [if_pos hb]
  exact h

/-- A kind of values: how many cells, and what each holds. -/
structure Kv (α : Type) where
  sz : Nat
  enc : α → List AV
namespace Kv
def R {α : Type} (d : Kv α) (w : World) (x : α) (cs : List Value) : Prop := cs.length = d.sz ∧ (∀ u ∈ cs, u.oneCell' = true) ∧ Cs (RepV (sto w)) (d.enc x) cs
def int (k : IntKind) : Kv Int := ⟨1, eInt k⟩
def bool : Kv Bool := ⟨1, eBool⟩
def string : Kv ByteArray := ⟨1, eStr⟩
def pair {α β : Type} (a : Kv α) (b : Kv β) : Kv (α × β) := ⟨a.sz + b.sz, fun p => a.enc p.1 ++ b.enc p.2⟩
def slice {α : Type} [Inhabited α] (d : Kv α) : Kv (List α) := ⟨1, eLst d.sz d.enc []⟩
def iso {α β : Type} (d : Kv α) (e : β → List AV) : Kv β := ⟨d.sz, e⟩
theorem one {w : World} {x : AV} {u : Value} (h1 : u.oneCell' = true) (h : RepV (sto w) x u) : [u].length = 1 ∧ (∀ v ∈ [u], v.oneCell' = true) ∧ Cs (RepV (sto w)) [x] [u] :=
  ⟨rfl, fun v hv => by rw [List.mem_singleton.1 hv]; exact h1, Cs.one h⟩
end Kv
/-- Where a reading of type t succeeds, the cells hold a value of kind d, with Ok. -/
def Opens (P : Program) {α : Type} (d : Kv α) (t : TypeId) (Ok : α → Prop) : Prop :=
  ∀ {H : Type} (enc : TypeId × Value → H) (W : World) (fuel : Nat) (cs : List Value) (dat : DataW H) (ps : List MemPlace),
    DataW.trod enc P W 0 (fun _ => true) true fuel t cs = some (dat, ps) → (∀ n ∈ dat.weights P t, n ≤ reachBytes) → ∃ x, d.R W x cs ∧ Ok x

theorem opens_int {P : Program} {t : TypeId} {k : IntKind} (hu : P.underlying t = some (.int k)) : Opens P (Kv.int k) t (fun n => (Lit.int k n).wf = true) := by
  intro H enc W fuel cs dat ps h _
  cases fuel with
  | zero => simp [DataW.trod] at h
  | succ n =>
    rw [DataW.trod_step] at h
    simp only [DataW.trodStep, hu] at h
    match cs, h with
    | [.int k' m], h =>
      simp only at h
      split at h
      · rename_i hk
        obtain ⟨rfl, hw⟩ := hk
        exact ⟨m, Kv.one rfl (.v _), hw⟩
      · simp at h

theorem opens_bool {P : Program} {t : TypeId} (hu : P.underlying t = some .bool) : Opens P Kv.bool t (fun _ => True) := by
  intro H enc W fuel cs dat ps h _
  cases fuel with
  | zero => simp [DataW.trod] at h
  | succ n =>
    rw [DataW.trod_step] at h
    simp only [DataW.trodStep, hu] at h
    match cs, h with
    | [.bool b], _ => exact ⟨b, Kv.one rfl (.v _), trivial⟩

theorem opens_string {P : Program} {t : TypeId} (hu : P.underlying t = some .string) : Opens P Kv.string t (fun s => s.size ≤ 140737488351232) := by
  intro H enc W fuel cs dat ps h hw
  cases fuel with
  | zero => simp [DataW.trod] at h
  | succ n =>
    rw [DataW.trod_step] at h
    simp only [DataW.trodStep, hu] at h
    match cs, h with
    | [.string s], h =>
      simp only at h
      split at h
      · simp only [Option.some.injEq, Prod.mk.injEq] at h
        obtain ⟨rfl, rfl⟩ := h
        refine ⟨s, Kv.one rfl (.v _), ?_⟩
        have h1 := hw s.data.toList.length (by rw [DataW.weights]; exact List.mem_singleton.2 rfl)
        rw [Array.length_toList] at h1
        exact h1
      · simp at h

theorem mapM_choose {α β γ : Type} {f : α → Option β} {Q : α → β → γ → Prop} : ∀ {l : List α} {ys : List β}, l.mapM f = some ys → (∀ i y, y ∈ ys → f i = some y → ∃ x, Q i y x) →
    ∃ xs : List γ, xs.length = l.length ∧ ys.length = l.length ∧ ∀ (j : Nat) i, l[j]? = some i → ∃ y x, ys[j]? = some y ∧ xs[j]? = some x ∧ f i = some y ∧ Q i y x := by
  intro l
  induction l with
  | nil =>
    intro ys h _
    simp at h
    subst h
    exact ⟨[], rfl, rfl, fun j i hj => by simp at hj⟩
  | cons a l ih =>
    intro ys h hQ
    rw [List.mapM_cons] at h
    cases hf : f a with
    | none => simp [hf] at h
    | some y =>
      cases hr : l.mapM f with
      | none => simp [hf, hr] at h
      | some r =>
        simp [hf, hr] at h
        subst h
        obtain ⟨xs, h1, h2, h3⟩ := ih hr (fun i z hz hfi => hQ i z (List.mem_cons_of_mem _ hz) hfi)
        obtain ⟨x, hx⟩ := hQ a y List.mem_cons_self hf
        refine ⟨x :: xs, by simp [h1], by simp [h2], fun j i hj => ?_⟩
        cases j with
        | zero =>
          simp at hj
          subst hj
          exact ⟨y, x, rfl, rfl, hf, hx⟩
        | succ j =>
          simp only [List.getElem?_cons_succ] at hj ⊢
          exact h3 j i hj

theorem cells_get {w : World} {a : Addr} {n : Nat} {c : List Value} (h : w.cells? 0 a n = some c) : c.length = n ∧ ∀ i u, c[i]? = some u → w.cell? (a.add i) = some u := by
  unfold World.cells? at h
  rw [if_pos (Nat.zero_le _)] at h
  obtain ⟨xs, h1, h2, h3⟩ := mapM_choose (Q := fun _ _ (_ : Unit) => True) h (fun _ _ _ _ => ⟨(), trivial⟩)
  refine ⟨by simpa using h2, fun i u hi => ?_⟩
  have hlt : i < n := by
    have := (List.getElem?_eq_some_iff.1 hi).1
    simp at h2
    omega
  obtain ⟨y, _, hy, _, hf, _⟩ := h3 i i (by simp [hlt])
  rw [hi] at hy
  obtain rfl := Option.some.inj hy
  exact hf

theorem weightsAll_mem {H : Type} {P : Program} {e : TypeId} {l : List (DataW H)} {d : DataW H} (hd : d ∈ l) {n : Nat} (hn : n ∈ d.weights P e) : n ∈ DataW.weightsAll P e l := by
  induction l with
  | nil => simp at hd
  | cons a l ih =>
    simp only [DataW.weightsAll, List.mem_append]
    rcases List.mem_cons.1 hd with rfl | hd
    · exact .inl hn
    · exact .inr (ih hd)

theorem opens_slice {P : Program} {α : Type} [Inhabited α] {d : Kv α} {t e : TypeId} {Ok : α → Prop} (B : Nat) (hu : P.underlying t = some (.slice e)) (hc : P.cellsOf e = d.sz) (hB : P.bytesOf e = B) (he : Opens P d e Ok) :
    Opens P (Kv.slice d) t (fun xs => xs.length * B ≤ 140737488351232 ∧ xs.length ≤ 9223372036854775807 ∧ ∀ x ∈ xs, Ok x) := by
  intro H enc W fuel cs dat ps h hw
  cases fuel with
  | zero => simp [DataW.trod] at h
  | succ n =>
    rw [DataW.trod_step] at h
    simp only [DataW.trodStep, hu] at h
    match cs, h with
    | [.slice none 0 0], h => exact ⟨[], Kv.one rfl (.nil _ _), by simp, by simp, by simp⟩
    | [.slice (some a) len cap], h =>
      simp only at h
      split at h
      · rename_i hb
        obtain ⟨_, hlc, hcm⟩ := hb
        obtain ⟨elems, hel, h⟩ := Option.bind_eq_some_iff.1 h
        obtain ⟨rest, hrest, h⟩ := Option.map_eq_some_iff.1 h
        simp only [Prod.mk.injEq] at h
        obtain ⟨rfl, rfl⟩ := h
        have hlen := hw (((elems.map (·.1)).length + (rest.map (·.1)).length) * P.bytesOf e) (by simp [DataW.weights, hu])
        obtain ⟨xs, h1, h2, h3⟩ := mapM_choose (Q := fun i _ x => ∃ c, c.length = d.sz ∧ d.R W x c ∧ Ok x ∧ ∀ j u, c[j]? = some u → W.cell? (a.add (i * d.sz + j)) = some u) hel (by
          intro i y hy hf
          obtain ⟨c, hcs, hy2⟩ := Option.bind_eq_some_iff.1 hf
          obtain ⟨x, hK, hok⟩ := he enc W n c y.1 y.2 hy2 (fun m hm => hw m (by
            simp only [DataW.weights, hu, List.mem_cons, List.mem_append]
            exact .inr (.inl (weightsAll_mem (List.mem_map_of_mem hy) hm))))
          obtain ⟨hl, hg⟩ := cells_get hcs
          refine ⟨x, c, by rw [hl, hc], hK, hok, fun j u hj => ?_⟩
          have := hg j u hj
          rw [hc] at this
          rw [Addr.add_add] at this
          exact this)
        simp only [List.length_range] at h1 h2
        have hget : ∀ (j : Nat) p, xs[j]? = some p → ∃ c, c.length = d.sz ∧ d.R W p c ∧ Ok p ∧ ∀ i u, c[i]? = some u → W.cell? (a.add (j * d.sz + i)) = some u := by
          intro j p hj
          have hjl : j < len := by have := (List.getElem?_eq_some_iff.1 hj).1; omega
          obtain ⟨y, x, _, hx, _, hq⟩ := h3 j j (by simp [hjl])
          rw [hj] at hx
          obtain rfl := Option.some.inj hx
          exact hq
        have hmax : len ≤ 9223372036854775807 := by unfold maxLen at hcm; omega
        refine ⟨xs, Kv.one rfl ?_, ?_, by rw [h1]; exact hmax, fun x hx => ?_⟩
        · have hel : ∀ i, i < len → ∃ c, c.length = d.sz ∧ d.R W (xs.getD i default) c ∧ ∀ k u, c[k]? = some u → W.cell? (a.add (i * d.sz + k)) = some u := fun i hi => by
            have hx : xs[i]? = some (xs.getD i default) := by rw [List.getD_eq_getElem?_getD, List.getElem?_eq_getElem (by omega)]; rfl
            obtain ⟨c, hcl, hK, _, hg⟩ := hget i _ hx
            exact ⟨c, hcl, hK, hg⟩
          have hcell : ∀ i k, i < len → k < d.sz → ∃ c u, d.R W (xs.getD i default) c ∧ c[k]? = some u ∧ W.cell? (a.add (i * d.sz + k)) = some u := fun i k hi hk => by
            obtain ⟨c, hcl, hK, hg⟩ := hel i hi
            have hck : c[k]? = some c[k] := List.getElem?_eq_getElem (by omega)
            exact ⟨c, _, hK, hck, hg k _ hck⟩
          have hlen' : xs.length = len := h1
          suffices hsuf : RepV (sto W) (.lst d.sz len len fun i => d.enc (xs.getD i default)) (.slice (some a) len cap) by
            unfold lstOf
            rw [hlen', List.length_nil, Nat.add_zero]
            refine hsuf.lst_congr fun i hi => ?_
            rw [nrm_at hi, List.append_nil]
            rfl
          refine .lst d.sz len len _ a cap (fun i k => (W.cell? (a.add (i * d.sz + k))).getD undef) (Nat.le_refl _) hlc (fun i hi => ?_) (fun i k hi hk => ?_) (fun i k x hi hx => ?_) (fun i k hi hk => ?_)
          · obtain ⟨c, hcl, hK, _⟩ := hel i hi
            rw [← hK.2.2.1]; exact hK.1
          · obtain ⟨c, u, _, _, hu⟩ := hcell i k hi hk
            rw [hu]
            exact sto_of hu
          · obtain ⟨c, hcl, hK, hg⟩ := hel i hi
            have hk : k < c.length := by rw [hK.2.2.1]; exact (List.getElem?_eq_some_iff.1 hx).1
            have hck : c[k]? = some c[k] := List.getElem?_eq_getElem hk
            rw [hg k _ hck]
            exact hK.2.2.2 k x _ hx hck
          · obtain ⟨c, u, hK, hck, hu⟩ := hcell i k hi hk
            rw [hu]
            exact hK.2.1 u (List.mem_of_getElem? hck)
        · rw [h1, ← h2, ← hB]
          simp only [List.length_map] at hlen
          exact Nat.le_trans (Nat.mul_le_mul_right _ (Nat.le_add_right _ _)) hlen
        · obtain ⟨j, hj⟩ := List.mem_iff_getElem?.1 hx
          obtain ⟨_, _, _, hok, _⟩ := hget j x hj
          exact hok
      · simp at h

/-- The fields of a struct, one behind the other. -/
def OpensL (P : Program) {α : Type} (d : Kv α) (o : Nat) (fs : List (TypeId × Nat)) (Ok : α → Prop) : Prop :=
  ∀ {H : Type} (enc : TypeId × Value → H) (W : World) (fuel : Nat) (cs : List Value) (xs : List (DataW H × List MemPlace)),
    cs.length = o + d.sz → fs.mapM (fun f => DataW.trod enc P W 0 (fun _ => true) true fuel f.1 ((cs.drop f.2).take (P.cellsOf f.1))) = some xs →
    (∀ n ∈ DataW.weightsEach P (fs.map (·.1)) (xs.map (·.1)), n ≤ reachBytes) → ∃ x, d.R W x (cs.drop o) ∧ Ok x

theorem opensL_one {P : Program} {α : Type} {d : Kv α} {t : TypeId} {Ok : α → Prop} {o : Nat} (h : Opens P d t Ok) (hc : P.cellsOf t = d.sz) : OpensL P d o [(t, o)] Ok := by
  intro H enc W fuel cs xs hl hm hw
  rw [List.mapM_cons] at hm
  cases hf : DataW.trod enc P W 0 (fun _ => true) true fuel t ((cs.drop o).take (P.cellsOf t)) with
  | none => simp [hf] at hm
  | some y =>
    simp [hf] at hm
    subst hm
    obtain ⟨x, hK, hok⟩ := h enc W fuel _ y.1 y.2 hf (fun n hn => hw n (by simp [DataW.weightsEach, hn]))
    refine ⟨x, ?_, hok⟩
    rw [List.take_of_length_le (by rw [List.length_drop, hl, hc]; omega)] at hK
    exact hK

theorem opensL_cons {P : Program} {α β : Type} {a : Kv α} {b : Kv β} {t : TypeId} {Oa : α → Prop} {Ob : β → Prop} {o : Nat} {fs : List (TypeId × Nat)} (h : Opens P a t Oa) (hc : P.cellsOf t = a.sz) (hr : OpensL P b (o + a.sz) fs Ob) :
    OpensL P (Kv.pair a b) o ((t, o) :: fs) (fun x => Oa x.1 ∧ Ob x.2) := by
  intro H enc W fuel cs xs hl hm hw
  have hsz : (Kv.pair a b).sz = a.sz + b.sz := rfl
  rw [hsz] at hl
  rw [List.mapM_cons] at hm
  cases hf : DataW.trod enc P W 0 (fun _ => true) true fuel t ((cs.drop o).take (P.cellsOf t)) with
  | none => simp [hf] at hm
  | some y =>
    cases hfr : fs.mapM (fun f => DataW.trod enc P W 0 (fun _ => true) true fuel f.1 ((cs.drop f.2).take (P.cellsOf f.1))) with
    | none => simp [hf, hfr] at hm
    | some r =>
      simp [hf, hfr] at hm
      subst hm
      obtain ⟨x, hK, hok⟩ := h enc W fuel _ y.1 y.2 hf (fun n hn => hw n (by simp [DataW.weightsEach, hn]))
      obtain ⟨z, hKz, hokz⟩ := hr enc W fuel cs r (by omega) hfr (fun n hn => hw n (by simp only [List.map_cons, DataW.weightsEach, List.mem_append]; exact .inr hn))
      refine ⟨(x, z), ?_, hok, hokz⟩
      have hcs : cs.drop o = (cs.drop o).take (P.cellsOf t) ++ cs.drop (o + a.sz) := by rw [hc, ← List.drop_drop, List.take_append_drop]
      rw [hcs]
      refine ⟨by rw [List.length_append, hK.1, hKz.1]; rfl, fun u hu => ?_, Cs.append hK.2.2 hKz.2.2⟩
      rcases List.mem_append.1 hu with hu | hu
      · exact hK.2.1 u hu
      · exact hKz.2.1 u hu

theorem opens_struct {P : Program} {α β : Type} {d : Kv α} {e : β → List AV} {t : TypeId} {fs : Array Field} {Ok : α → Prop} (f : β → α) (g : α → β) (hfg : ∀ x, f (g x) = x) (he : ∀ x, e x = d.enc (f x)) (hu : P.underlying t = some (.struct fs)) (hc : P.cellsOf t = d.sz)
    (h : OpensL P d 0 (fs.toList.map fun x => (x.type, x.offset)) Ok) : Opens P (Kv.iso d e) t (fun y => Ok (f y)) := by
  intro H enc W fuel cs dat ps ht hw
  cases fuel with
  | zero => simp [DataW.trod] at ht
  | succ n =>
    rw [DataW.trod_step] at ht
    simp only [DataW.trodStep, hu] at ht
    split at ht
    · rename_i hlen
      obtain ⟨xs, hx, ht⟩ := Option.map_eq_some_iff.1 ht
      simp only [Prod.mk.injEq] at ht
      obtain ⟨rfl, rfl⟩ := ht
      obtain ⟨x, hK, hok⟩ := h enc W n cs xs (by rw [hlen, hc]; omega) (by rw [List.mapM_map]; exact hx) (fun m hm => hw m (by
        simp only [DataW.weights, hu]
        simpa [Function.comp_def] using hm))
      refine ⟨g x, ?_, show Ok (f (g x)) by rw [hfg]; exact hok⟩
      have hK' : d.R W x cs := by simpa using hK
      refine ⟨hK'.1, hK'.2.1, ?_⟩
      show Cs (RepV (sto W)) (e (g x)) cs
      rw [he, hfg]
      exact hK'.2.2
    · simp at ht

/-- An argument: its cells hold a value of the kind. -/
theorem open_arg {P : Program} {α : Type} {d : Kv α} {t : TypeId} {Ok : α → Prop} (h : Opens P d t Ok) {H : Type} {enc : TypeId × Value → H} {W : World} {v : Value} {dat : DataW H} {ps : List MemPlace} {ts : List TypeId} {ds : List (DataW H)} {j : Nat}
    (hsz : (DataW.weightsEach P ts ds).all (· ≤ reachBytes) = true) (ht : ts[j]? = some t) (hd : ds[j]? = some dat) (hr : DataW.Trod enc P W 0 (fun _ => true) true t v dat ps) : ∃ x, d.R W x v.cells.toList ∧ Ok x := by
  obtain ⟨fuel, hf⟩ := hr
  exact h enc W fuel _ dat ps hf (fun n hn => by simpa using List.all_eq_true.1 hsz n (DataW.weights_mem_each ht hd n hn))
theorem arg_agg {α : Type} {d : Kv α} {w : World} {x : α} {cs : Array Value} (h : d.R w x (Value.agg cs).cells.toList) : RepV (sto w) (.agg (d.enc x)) (.agg cs) := by
  have h2 : Cs (RepV (sto w)) (d.enc x) cs.toList := h.2.2
  have := RepV.agg (S := sto w) (d.enc x) cs.toList h2.1 h2.2
  rwa [Array.toArray_toList] at this
theorem arg_one {α : Type} {d : Kv α} {w : World} {x : α} {v : Value} {a : AV} (ha : d.enc x = [a]) (h : d.R w x [v]) : RepV (sto w) a v := by
  have h2 : Cs (RepV (sto w)) (d.enc x) [v] := h.2.2
  rw [ha] at h2
  exact h2.2 0 a v rfl rfl
/-- A summary of plain answers, out of what its calls are known to answer. -/
theorem models_of_calls {P : Program} {G : World → Prop} (hG : ∀ w w', G w → Below w.heap.size w w' → G w') {f : Nat} {m : List AV → Option (AV × List Blk)}
    (h : ∀ (S : Sto) (w : World) (as : List AV) (vs : List Value) (r : AV) (Hr : List Blk), Cs (RepV S) as vs → G w → m as = some (r, Hr) → ∃ u, r = .v u ∧ Hr = [] ∧ Calls P f vs.toArray w fun e w' => e = .returned u ∧ Below w.heap.size w w') : Models P G f m := by
  intro S w as vs r Hr hvs himm hg e
  obtain ⟨u, rfl, rfl, hc⟩ := h S w as vs r Hr hvs hg e
  refine hc.mono ?_
  rintro e w' ⟨rfl, hb⟩
  have hlt : ∀ a v, S a = some v → a.block < w.heap.size := fun a v e => by
    have := himm a v e
    unfold World.cell? at this
    split at this
    · rename_i hq; exact (Array.getElem?_eq_some_iff.1 hq).1
    · cases this
  refine ⟨u, S, fun _ => none, rfl, S.le_refl, fun _ _ e _ => e, ⟨⟨fun k cs e => by simp at e, fun k e sz ver bv es q => by simp at q, fun k k' b l => by obtain ⟨⟨x, hx, _⟩, _⟩ := l; simp at hx, fun a u e k l => by obtain ⟨⟨x, hx, _⟩, _⟩ := l; simp at hx⟩, fun a v e => ?_, hb, hb.size, hG _ _ hg hb⟩, .val _ _ (.v u)⟩
  rw [hb.cell (hlt a v e)]
  exact himm a v e
/-- .. where what lies told may be read. -/
theorem models_of_calls' {P : Program} {G : World → Prop} (hG : ∀ w w', G w → Below w.heap.size w w' → G w') {f : Nat} {m : List AV → Option (AV × List Blk)}
    (h : ∀ (S : Sto) (w : World) (as : List AV) (vs : List Value) (r : AV) (Hr : List Blk), Cs (RepV S) as vs → (∀ a u, S a = some u → w.cell? a = some u) → G w → m as = some (r, Hr) → ∃ u, r = .v u ∧ Hr = [] ∧ Calls P f vs.toArray w fun e w' => e = .returned u ∧ Below w.heap.size w w') : Models P G f m := by
  intro S w as vs r Hr hvs himm hg e
  obtain ⟨u, rfl, rfl, hc⟩ := h S w as vs r Hr hvs himm hg e
  refine hc.mono ?_
  rintro e w' ⟨rfl, hb⟩
  have hlt : ∀ a v, S a = some v → a.block < w.heap.size := fun a v e => by
    have := himm a v e
    unfold World.cell? at this
    split at this
    · rename_i hq; exact (Array.getElem?_eq_some_iff.1 hq).1
    · cases this
  refine ⟨u, S, fun _ => none, rfl, S.le_refl, fun _ _ e _ => e, ⟨⟨fun k cs e => by simp at e, fun k e sz ver bv es q => by simp at q, fun k k' b l => by obtain ⟨⟨x, hx, _⟩, _⟩ := l; simp at hx, fun a u e k l => by obtain ⟨⟨x, hx, _⟩, _⟩ := l; simp at hx⟩, fun a v e => ?_, hb, hb.size, hG _ _ hg hb⟩, .val _ _ (.v u)⟩
  rw [hb.cell (hlt a v e)]
  exact himm a v e
end Go.Proofs.YtalkodandfjkmaaDoor.Av
