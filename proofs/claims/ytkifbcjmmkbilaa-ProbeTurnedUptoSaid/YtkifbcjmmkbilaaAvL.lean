/- Rows of operations whose order is drawn: whatever order, the text's order answers. -/
import Derived.Test.YtkifbcjmmkbilaaAvU
set_option linter.unusedVariables false
set_option linter.unusedSimpArgs false
namespace Go.Proofs.Ytkifbcjmmkbilaa.Av
open Go Go.RowKit
variable {P : Program}
section
variable {S : Sto} {H : List Blk} {pl : Pl} {A : Nat → Prop} {ds : List Deferred} {G : World → Prop} {B : Nat} {w0 w : World} {rd : Option Nat} {dp : Nat} {C : Ctx}

theorem pureOp_congr {t1 t2 : List AV} {o : Oper} (h : ∀ x ∈ o.op.operands, evA t1 x = evA t2 x) (hc : ∀ r r' : Operand → Value, (∀ y ∈ o.op.operands, r y = r' y) → execOp r o = execOp r' o) : pureOp P t1 o = pureOp P t2 o := by
  have h1 : o.op.operands.toList.all (fun x => (evP t1 x).isSome) = o.op.operands.toList.all (fun x => (evP t2 x).isSome) := by
    rw [Bool.eq_iff_iff, List.all_eq_true, List.all_eq_true]
    constructor <;> intro k x hx
    · have := k x hx; simpa only [evP, h x (Array.mem_toList_iff.1 hx)] using this
    · have := k x hx; simpa only [evP, h x (Array.mem_toList_iff.1 hx)] using this
  have h2 : execOp (evR t1) o = execOp (evR t2) o := hc _ _ fun y hy => by simp only [evR, h y hy]
  unfold pureOp
  rw [h1, h2]

theorem map_congr' {t1 t2 : List AV} {xs : List Operand} (h : ∀ x ∈ xs, evA t1 x = evA t2 x) : xs.map (evA t1) = xs.map (evA t2) := List.map_congr_left h
theorem omap_congr {t1 t2 : List AV} {x : Option Operand} (h : ∀ y ∈ x, evA t1 y = evA t2 y) : x.map (evA t1) = x.map (evA t2) := by
  cases x with
  | none => rfl
  | some y => simp [h y rfl]

theorem evOpQ_congr {t1 t2 : List AV} {o : Oper} (h : ∀ x ∈ o.op.operands, evA t1 x = evA t2 x) : evOpQ C P t1 H o = evOpQ C P t2 H o := by
  cases ho : o.op with
  | move x => have hx := h x (by simp [ho, Op.operands]); simp only [evOpQ, ho, hx]
  | assign x => have hx := h x (by simp [ho, Op.operands]); simp only [evOpQ, ho, hx]
  | pick c x y =>
    have hc := h c (by simp [ho, Op.operands])
    have hx := h x (by simp [ho, Op.operands])
    have hy := h y (by simp [ho, Op.operands])
    simp only [evOpQ, ho, hc, hx, hy]
  | load t x => have hx := h x (by simp [ho, Op.operands]); simp only [evOpQ, ho, hx]
  | nilCheck x => have hx := h x (by simp [ho, Op.operands]); simp only [evOpQ, ho, hx]
  | fieldAddr t x f => have hx := h x (by simp [ho, Op.operands]); simp only [evOpQ, ho, hx]
  | field t x f => have hx := h x (by simp [ho, Op.operands]); simp only [evOpQ, ho, hx]
  | indexAddr t x i =>
    have hx := h x (by simp [ho, Op.operands])
    have hi := h i (by simp [ho, Op.operands])
    simp only [evOpQ, ho, hx, hi]
  | slice t x lo hi mx =>
    have hx := h x (by simp [ho, Op.operands])
    have h1 := omap_congr (t1 := t1) (t2 := t2) (x := lo) (fun y hy => h y (by cases lo <;> simp_all [ho, Op.operands]))
    have h2 := omap_congr (t1 := t1) (t2 := t2) (x := hi) (fun y hy => h y (by cases hi <;> simp_all [ho, Op.operands]))
    have h3 := omap_congr (t1 := t1) (t2 := t2) (x := mx) (fun y hy => h y (by cases mx <;> simp_all [ho, Op.operands]))
    simp only [evOpQ, ho, hx, h1, h2, h3]
  | makeInterface t x => have hx := h x (by simp [ho, Op.operands]); simp only [evOpQ, ho, hx]
  | makeFunc fn first caps =>
    have hc := map_congr' (t1 := t1) (t2 := t2) (xs := caps.toList) (fun x hx => h x (by simp at hx; simp [ho, Op.operands, hx]))
    cases fn <;> simp only [evOpQ, ho, hc]
  | extract x i => have hx := h x (by simp [ho, Op.operands]); simp only [evOpQ, ho, hx]
  | binOp op t x y t' =>
    have hx := h x (by simp [ho, Op.operands])
    have hy := h y (by simp [ho, Op.operands])
    have hp := pureOp_congr (P := P) h (congr_bin ho)
    cases op <;> simp only [evOpQ, ho, hx, hy, hp]
  | build t parts =>
    have hp : (parts.toList.map fun p => (p.1, evA t1 p.2)) = (parts.toList.map fun p => (p.1, evA t2 p.2)) := by
      apply List.map_congr_left
      intro p hp
      rw [h p.2 (by simp only [ho, Op.operands, List.mem_toArray]; exact List.mem_map.2 ⟨p, hp, rfl⟩)]
    simp only [evOpQ, ho, hp]
  | unOp op t x =>
    have hp := pureOp_congr (P := P) h (congr_un ho)
    simp only [evOpQ, ho, hp]
  | index t x i =>
    have hx := h x (by simp [ho, Op.operands])
    have hi := h i (by simp [ho, Op.operands])
    simp only [evOpQ, ho, hx, hi]
  | convert s d x => have hx := h x (by simp [ho, Op.operands]); simp only [evOpQ, ho, hx]
  | call c =>
    have ha := map_congr' (t1 := t1) (t2 := t2) (xs := c.args.toList) (fun x hx => h x (by simp at hx; simp [ho, Op.operands, Call.operands, hx]))
    cases hc : c.callee with
    | value f =>
      have hf := h f (by simp [ho, Op.operands, Call.operands, hc])
      simp only [evOpQ, ho, hc, hf, ha]
    | invoke r m => simp only [evOpQ, ho, hc]
    | builtin b =>
      have hp := pureOp_congr (P := P) h (congr_builtin ho hc)
      cases b <;> simp only [evOpQ, ho, hc, hp, ha]
      split
      · rename_i x t hxs hts
        have hx := h x (by
          have : x ∈ c.args.toList := by rw [hxs]; exact List.mem_singleton.2 rfl
          simp at this
          simp [ho, Op.operands, Call.operands, this])
        simp only [hx]
      · rfl
  | _ => simp only [evOpQ, ho]

/-- The slots, with what the listed ones yield laid in. -/
def lay (listed : Nat → Bool) : Nat → List Oper → List AV → List AV → List AV
  | k, o :: os, x :: xs, tmps => lay listed (k + 1) os xs (if listed k then put tmps o.dst x else tmps)
  | _, _, _, tmps => tmps

theorem put_length (tmps : List AV) (d : Option Nat) (x : AV) : (put tmps d x).length = tmps.length := by cases d <;> simp [put]
theorem put_ne {tmps : List AV} {d : Option Nat} {x : AV} {t : Nat} (h : d ≠ some t) : (put tmps d x)[t]? = tmps[t]? := by
  cases d with
  | none => rfl
  | some d => exact List.getElem?_set_ne (fun e => h (by rw [e]))
theorem lay_length (listed : Nat → Bool) : ∀ (k : Nat) (os : List Oper) (xs tmps : List AV), (lay listed k os xs tmps).length = tmps.length
  | k, [], xs, tmps => rfl
  | k, o :: os, [], tmps => rfl
  | k, o :: os, x :: xs, tmps => by
    rw [lay, lay_length listed (k + 1) os xs]
    split
    · exact put_length _ _ _
    · rfl
theorem lay_shift (listed : Nat → Bool) : ∀ (k : Nat) (os : List Oper) (xs tmps : List AV), lay listed (k + 1) os xs tmps = lay (fun j => listed (j + 1)) k os xs tmps
  | k, [], xs, tmps => rfl
  | k, o :: os, [], tmps => rfl
  | k, o :: os, x :: xs, tmps => by rw [lay, lay, lay_shift listed (k + 1) os xs]
/-- At a slot only those count that write it. -/
theorem lay_congr {l1 l2 : Nat → Bool} {t : Nat} : ∀ (k : Nat) (os : List Oper) (xs t1 t2 : List AV), (∀ (j : Nat) o, os[j]? = some o → o.dst = some t → l1 (k + j) = l2 (k + j)) → t1.length = t2.length → t1[t]? = t2[t]? → (lay l1 k os xs t1)[t]? = (lay l2 k os xs t2)[t]?
  | k, [], xs, t1, t2, _, _, h => h
  | k, o :: os, [], t1, t2, _, _, h => h
  | k, o :: os, x :: xs, t1, t2, hw, hl, h => by
    rw [lay, lay]
    refine lay_congr (k + 1) os xs _ _ (fun j p hp hd => by have := hw (j + 1) p (by simpa using hp) hd; rwa [show k + 1 + j = k + (j + 1) by omega]) ?_ ?_
    · split <;> split <;> simp [put_length, hl]
    · by_cases hd : o.dst = some t
      · have := hw 0 o rfl hd
        simp only [Nat.add_zero] at this
        rw [this]
        split
        · rw [hd]
          simp only [put, List.getElem?_set, hl]
          split <;> simp_all
        · exact h
      · split <;> split <;> simp only [put_ne hd, h]
/-- A slot that one alone writes. -/
theorem lay_at {l : Nat → Bool} {t : Nat} : ∀ (k : Nat) (os : List Oper) (xs tmps : List AV) (j : Nat) (o : Oper) (x : AV), os[j]? = some o → xs[j]? = some x → o.dst = some t → l (k + j) = true → (∀ (i : Nat) p, os[i]? = some p → p.dst = some t → i = j) → t < tmps.length → (lay l k os xs tmps)[t]? = some x
  | k, [], xs, tmps, j, o, x, ho, _, _, _, _, _ => by simp at ho
  | k, q :: os, [], tmps, j, o, x, _, hx, _, _, _, _ => by simp at hx
  | k, q :: os, y :: xs, tmps, 0, o, x, ho, hx, hd, hl, hu, ht => by
    simp at ho hx
    subst ho
    subst hx
    rw [lay]
    simp only [Nat.add_zero] at hl
    rw [if_pos hl]
    have hn : ∀ (i : Nat) p, os[i]? = some p → p.dst ≠ some t := fun i p hp hd => by have := hu (i + 1) p (by simpa using hp) hd; omega
    rw [lay_congr (l2 := fun _ => false) (k + 1) os xs _ (put tmps q.dst y) (fun j p hp hd => absurd hd (hn j p hp)) rfl rfl]
    have hnone : ∀ (k : Nat) (os : List Oper) (xs tmps : List AV), lay (fun _ => false) k os xs tmps = tmps := by
      intro k os
      induction os generalizing k with
      | nil => intro xs tmps; rfl
      | cons o os ih => intro xs tmps; cases xs with
        | nil => rfl
        | cons x xs => rw [lay]; simp [ih]
    rw [hnone, hd]
    simp [put, ht]
  | k, q :: os, y :: xs, tmps, j + 1, o, x, ho, hx, hd, hl, hu, ht => by
    rw [lay]
    refine lay_at (k + 1) os xs _ j o x (by simpa using ho) (by simpa using hx) hd (by rwa [show k + 1 + j = k + (j + 1) by omega]) (fun i p hp hpd => by have := hu (i + 1) p (by simpa using hp) hpd; omega) ?_
    split
    · rwa [put_length]
    · exact ht

/-- What the text's order told of an operation. -/
def StepOk (C : Ctx) (P : Program) (H : List Blk) (ops : Array Oper) (tmps : List AV) (o : Oper) (x : AV) : Prop :=
  (wantA ops tmps o = some true ∧ evOpQ C P tmps H o = some x) ∨ (wantA ops tmps o = some false ∧ x = .v undef)

theorem evQs_inv {ops : Array Oper} : ∀ (os : List Oper) (tmps xs t : List AV), evQs C P H ops os tmps = some (xs, t) → xs.length = os.length ∧ t = lay (fun _ => true) 0 os xs tmps ∧ ∀ (i : Nat) o, os[i]? = some o → ∃ x, xs[i]? = some x ∧ StepOk C P H ops (lay (fun j => decide (j < i)) 0 os xs tmps) o x
  | [], tmps, xs, t, e => by
    simp only [evQs, Option.some.injEq, Prod.mk.injEq] at e
    obtain ⟨rfl, rfl⟩ := e
    exact ⟨rfl, rfl, fun i o h => by simp at h⟩
  | o :: os, tmps, xs, t, e => by
    have key : ∀ x xs', evQs C P H ops os (put tmps o.dst x) = some (xs', t) → StepOk C P H ops tmps o x → xs = x :: xs' → xs.length = (o :: os).length ∧ t = lay (fun _ => true) 0 (o :: os) xs tmps ∧ ∀ (i : Nat) p, (o :: os)[i]? = some p → ∃ x, xs[i]? = some x ∧ StepOk C P H ops (lay (fun j => decide (j < i)) 0 (o :: os) xs tmps) p x := by
      intro x xs' h1 h2 h3
      subst h3
      obtain ⟨i1, i2, i3⟩ := evQs_inv os _ xs' t h1
      refine ⟨by simp [i1], ?_, fun i p hp => ?_⟩
      · rw [lay, lay_shift, i2]
        rfl
      · cases i with
        | zero =>
          simp at hp
          subst hp
          refine ⟨x, rfl, ?_⟩
          have hnone : ∀ (k : Nat) (os : List Oper) (xs tmps : List AV), lay (fun j => decide (j < 0)) k os xs tmps = tmps := by
            intro k os
            induction os generalizing k with
            | nil => intro xs tmps; rfl
            | cons o os ih => intro xs tmps; cases xs with
              | nil => rfl
              | cons x xs => rw [lay, ih]; simp
          rw [hnone]
          exact h2
        | succ i =>
          obtain ⟨y, hy, hs⟩ := i3 i p (by simpa using hp)
          refine ⟨y, by simpa using hy, ?_⟩
          rw [lay, lay_shift]
          have : (fun j => decide (j + 1 < i + 1)) = fun j => decide (j < i) := by funext j; simp
          rw [this]
          simpa using hs
    simp only [evQs] at e
    split at e
    · rename_i hw
      split at e
      · rename_i x hx
        split at e
        · rename_i xs' t' h1
          simp only [Option.some.injEq, Prod.mk.injEq] at e
          obtain ⟨e1, rfl⟩ := e
          exact key x xs' h1 (.inl ⟨hw, hx⟩) e1.symm
        · cases e
      · cases e
    · rename_i hw
      split at e
      · rename_i xs' t' h1
        simp only [Option.some.injEq, Prod.mk.injEq] at e
        obtain ⟨e1, rfl⟩ := e
        exact key (.v undef) xs' h1 (.inr ⟨hw, rfl⟩) e1.symm
      · cases e
    · cases e

theorem drawOk_inv {ops : List Oper} (h : drawOk ops = true) {i : Nat} {o : Oper} (ho : ops[i]? = some o) :
    (∀ e ∈ o.after, e.on < i) ∧ ∀ (j : Nat) p t, ops[j]? = some p → p.dst = some t → i ≠ j → o.dst ≠ some t ∧ (t ∈ reads ops o → if j < i then j ∈ afters o else i ∈ afters p) := by
  have hm : (o, i) ∈ ops.zipIdx := by
    rw [List.mem_zipIdx_iff_getElem?]
    exact ho
  have := List.all_eq_true.1 h _ hm
  simp only [Bool.and_eq_true, List.all_eq_true] at this
  obtain ⟨⟨h1, _⟩, h2⟩ := this
  refine ⟨fun e he => by simpa using h1 e (by simpa using he), fun j p t hp hd hij => ?_⟩
  have hm' : (p, j) ∈ ops.zipIdx := by
    rw [List.mem_zipIdx_iff_getElem?]
    exact hp
  have h3 := h2 _ hm'
  simp only [hd, Bool.or_eq_true, Bool.and_eq_true, Bool.not_eq_true', beq_iff_eq, beq_eq_false_iff_ne] at h3
  rcases h3 with h3 | ⟨h3, h4⟩
  · exact absurd h3 hij
  · refine ⟨h3, fun ht => ?_⟩
    rcases h4 with h4 | h4
    · rw [List.contains_eq_mem] at h4
      simp [ht] at h4
    · split at h4
      · rename_i hlt; rw [if_pos hlt]; simpa using h4
      · rename_i hlt; rw [if_neg hlt]; simpa using h4

theorem mem_afters {o : Oper} {j : Nat} (h : j ∈ afters o) : ∃ e ∈ o.after, Region.binds .any e = true ∧ e.on = j := by
  unfold afters at h
  obtain ⟨e, he, hj⟩ := List.mem_filterMap.1 h
  split at hj
  · rename_i hb
    exact ⟨e, by simpa using he, hb, Option.some.inj hj⟩
  · cases hj

theorem unl_lt {p q : Nat → Bool} {i : Nat} (hi : p i = true) (hq : q i = false) (hs : ∀ j, q j = true → p j = true) : ∀ l : List Nat, i ∈ l → (l.filter q).length < (l.filter p).length
  | [], h => by cases h
  | j :: l, h => by
    have hle : ∀ l : List Nat, (l.filter q).length ≤ (l.filter p).length := by
      intro l
      induction l with
      | nil => simp
      | cons a l ih =>
        simp only [List.filter_cons]
        cases hqa : q a with
        | true => simp [hs a hqa, ih]
        | false => cases p a <;> simp <;> omega
    simp only [List.filter_cons]
    rcases List.mem_cons.1 h with rfl | h
    · simp [hi, hq]
      have := hle l
      omega
    · have ih := unl_lt hi hq hs l h
      cases hqa : q j with
      | true => simp [hs j hqa, ih]
      | false => cases p j <;> simp <;> omega

def lst (listed : Array Bool) : Nat → Bool := fun j => listed.getD j false
def unl (n : Nat) (listed : Array Bool) : Nat := ((List.range n).filter fun j => !lst listed j).length

theorem lst_set {listed : Array Bool} {i : Nat} (hi : i < listed.size) (j : Nat) : lst (listed.setIfInBounds i true) j = (lst listed j || decide (j = i)) := by
  unfold lst
  by_cases h : j = i
  · subst h; simp [Array.getD, hi]
  · simp only [Array.getD_eq_getD_getElem?, Array.getElem?_setIfInBounds_ne (Ne.symm h), decide_eq_false h, Bool.or_false]

theorem count_from (i : Nat) : ∀ n, i ≤ n → ((List.range n).filter fun j => decide (i ≤ j)).length = n - i
  | 0, h => by simp
  | n + 1, h => by
    rw [List.range_succ, List.filter_append, List.length_append]
    by_cases hn : i ≤ n
    · rw [count_from i n hn]
      simp [hn]
      omega
    · have hi : i = n + 1 := by omega
      subst hi
      have : (List.range n).filter (fun j => decide (n + 1 ≤ j)) = [] := by
        rw [List.filter_eq_nil_iff]
        intro j hj
        have := List.mem_range.1 hj
        simp
        omega
      rw [this]
      simp
theorem sinkFrom_get {ops : List Oper} : ∀ (l : List Oper) (i : Nat), sinkFrom ops i l = true → ∀ (j : Nat) o, l[j]? = some o → sinkR ops (i + j) (afters o) = true
  | [], i, _, j, o, h => by simp at h
  | p :: l, i, h, j, o, ho => by
    simp only [sinkFrom, Bool.and_eq_true] at h
    cases j with
    | zero => simp at ho; subst ho; exact h.1
    | succ j =>
      have := sinkFrom_get l (i + 1) h.2 j o (by simpa using ho)
      rwa [show i + 1 + j = i + (j + 1) by omega] at this
theorem cutAt_le (C : Ctx) : ∀ l : List Oper, cutAt C l ≤ l.length
  | [] => Nat.le_refl _
  | o :: l => by
    unfold cutAt
    split
    · have := cutAt_le C l
      simp
      omega
    · simp
theorem sinkR_sound {ops : List Oper} (L : Nat → Bool) (hcl : ∀ j p, ops[j]? = some p → L j = true → ∀ k ∈ afters p, L k = true) : ∀ (n : Nat) (R : List Nat), sinkR ops n R = true → (∀ k ∈ R, L k = true) → ∀ j, j < n → L j = true
  | 0, _, _, _, j, hj => absurd hj (Nat.not_lt_zero j)
  | n + 1, R, h, hR, j, hj => by
    simp only [sinkR, Bool.and_eq_true] at h
    have hn : L n = true := hR n (by simpa using h.1)
    by_cases hjn : j = n
    · rw [hjn]; exact hn
    · refine sinkR_sound L hcl n _ h.2 ?_ j (by omega)
      intro k hk
      split at hk
      · rename_i p hp
        rcases List.mem_append.1 hk with hk | hk
        · exact hcl n p hp hn k hk
        · exact hR k hk
      · exact hR k hk
theorem draw_any (hM : P.follows .mixedOrders = true) (hG : ∀ w', Below B w0 w' → G w') (hK : CtxOk P C G) {ops : Array Oper} {Q : Exit → Act → World → Prop} (hok : drawOk ops.toList = true) {qs : List Oper} {tmps xs : List AV} {m : Nat}
    (hqs : ∀ (i : Nat) o, qs[i]? = some o ↔ (ops[i]? = some o ∧ i < m)) (hlen : qs.length = m) (hxs : xs.length = m) (hstep : ∀ (i : Nat) o, qs[i]? = some o → ∃ x, xs[i]? = some x ∧ StepOk C P H ops (lay (fun j => decide (j < i)) 0 qs xs tmps) o x)
    (hend : m = ops.size ∧ (∀ a S' pl' w', Ext B S H pl S' H pl' → WRel A G B w0 S' H pl' w' → TRel ds S' H pl' (lay (fun _ => true) 0 qs xs tmps) a → Q .normal a w') ∨
      m < ops.size ∧ (∀ i, m ≤ i → ∀ (L : Nat → Bool) o, ops[i]? = some o → (∀ k ∈ afters o, L k = true) → (∀ j p, ops[j]? = some p → L j = true → ∀ k ∈ afters p, L k = true) → ∀ j, j < i → L j = true) ∧ ∀ a S' pl' w', Ext B S H pl S' H pl' → WRel A G B w0 S' H pl' w' → TRel ds S' H pl' (lay (fun _ => true) 0 qs xs tmps) a → wpListIn (Fc rd) dp P ops Q (ops.toList.drop m) a w') :
    ∀ (fuel : Nat) (listed : Array Bool) (S' : Sto) (pl' : Pl) (a : Act) (w : World), listed.size = ops.size → unl ops.size listed ≤ fuel → (∀ j o, ops[j]? = some o → lst listed j = true → ∀ k ∈ afters o, lst listed k = true) → (∀ j, m ≤ j → lst listed j = false) →
      Ext B S H pl S' H pl' → WRel A G B w0 S' H pl' w → TRel ds S' H pl' (lay (lst listed) 0 qs xs tmps) a → wpAnyIn (Fc rd) dp P .any ops Q fuel listed a w := by
  have hops : ∀ (j : Nat), ops.toList[j]? = ops[j]? := fun j => by simp
  have hready : ∀ (listed : Array Bool), listed.size = ops.size → (Region.ready .any ops listed = [] → ∀ j, j < ops.size → lst listed j = true) := by
    intro listed hsz hr j
    induction j using Nat.strongRecOn with
    | _ j ih =>
      intro hj
      by_cases hl : lst listed j = true
      · exact hl
      · have hlf : lst listed j = false := by simpa using hl
        have ho : ops[j]? = some ops[j] := Array.getElem?_eq_getElem hj
        have hm : j ∈ Region.ready .any ops listed := by
          rw [mem_ready]
          refine ⟨?_, ops[j], ho, fun e he hb => ?_⟩
          · unfold lst at hlf
            simpa [Array.getD, hsz, hj] using hlf
          · have := (drawOk_inv hok (i := j) (by rw [hops]; exact ho)).1 e he
            exact ih e.on this (by omega)
        rw [hr] at hm
        cases hm
  have hcongr : ∀ (listed : Array Bool) (i : Nat) (o : Oper), ops[i]? = some o → i < m → lst listed i = false → (∀ k ∈ afters o, lst listed k = true) → (∀ j o, ops[j]? = some o → lst listed j = true → ∀ k ∈ afters o, lst listed k = true) →
      ∀ t ∈ reads ops.toList o, (lay (lst listed) 0 qs xs tmps)[t]? = (lay (fun j => decide (j < i)) 0 qs xs tmps)[t]? := by
    intro listed i o ho hi hli haft hcl t ht
    refine lay_congr 0 qs xs tmps tmps (fun j p hp hd => ?_) rfl rfl
    simp only [Nat.zero_add]
    obtain ⟨hpo, hjm⟩ := (hqs j p).1 hp
    by_cases hij : i = j
    · subst hij; simp [hli]
    · have := ((drawOk_inv hok (i := i) (by rw [hops]; exact ho)).2 j p t (by rw [hops]; exact hpo) hd hij).2 ht
      by_cases hlt : j < i
      · rw [if_pos hlt] at this
        rw [haft j this]
        simp [hlt]
      · rw [if_neg hlt] at this
        rw [decide_eq_false hlt]
        cases hlj : lst listed j with
        | false => rfl
        | true =>
          have := hcl j p hpo hlj i this
          rw [hli] at this
          cases this
  have hev : ∀ (listed : Array Bool) (i : Nat) (o : Oper), (∀ t ∈ reads ops.toList o, (lay (lst listed) 0 qs xs tmps)[t]? = (lay (fun j => decide (j < i)) 0 qs xs tmps)[t]?) → ∀ y ∈ o.op.operands, evA (lay (lst listed) 0 qs xs tmps) y = evA (lay (fun j => decide (j < i)) 0 qs xs tmps) y := by
    intro listed i o h y hy
    cases y with
    | tmp t =>
      have : t ∈ reads ops.toList o := by
        unfold reads opTmps
        refine List.mem_append.2 (.inl (List.mem_filterMap.2 ⟨.tmp t, by simpa using hy, rfl⟩))
      simp only [evA, List.getD, h t this]
    | _ => rfl
  have hwant : ∀ (listed : Array Bool) (i : Nat) (o : Oper), (∀ t ∈ reads ops.toList o, (lay (lst listed) 0 qs xs tmps)[t]? = (lay (fun j => decide (j < i)) 0 qs xs tmps)[t]?) → wantA ops (lay (lst listed) 0 qs xs tmps) o = wantA ops (lay (fun j => decide (j < i)) 0 qs xs tmps) o := by
    intro listed i o h
    unfold wantA
    cases hg : o.guard with
    | none => rfl
    | some jb =>
      obtain ⟨j, b⟩ := jb
      simp only
      cases hp : ops[j]? with
      | none => rfl
      | some p =>
        simp only [Option.bind_some]
        cases hd : p.dst with
        | none => rfl
        | some d =>
          have : d ∈ reads ops.toList o := by
            unfold reads
            refine List.mem_append.2 (.inr ?_)
            rw [hg]
            simp only [hops, hp, hd]
            simp
          simp only [List.getD, h d this]
  have hfull : ∀ (listed : Array Bool), (∀ j, j < m → lst listed j = true) → lay (lst listed) 0 qs xs tmps = lay (fun _ => true) 0 qs xs tmps := fun listed h => by
    apply List.ext_getElem?
    intro t
    refine lay_congr 0 qs xs tmps tmps (fun j p hp _ => ?_) rfl rfl
    rw [Nat.zero_add]
    exact h j ((hqs j p).1 hp).2
  have hnil : ∀ (listed : Array Bool), listed.size = ops.size → (∀ j, j < ops.size → lst listed j = true) → Region.ready .any ops listed = [] := by
    intro listed hsz hall
    rw [List.eq_nil_iff_forall_not_mem]
    intro j hj
    obtain ⟨h0, o, ho, _⟩ := mem_ready.1 hj
    have hlt : j < ops.size := (Array.getElem?_eq_some_iff.1 ho).1
    have := hall j hlt
    unfold lst at this
    simp [Array.getD, hsz, hlt] at this h0
    rw [this] at h0
    cases h0
  have tail : ∀ (k i : Nat) (listed : Array Bool) (a : Act) (w : World), i + k = ops.size → m ≤ i → listed.size = ops.size → (∀ j, lst listed j = decide (j < i)) →
      (∀ i, m ≤ i → ∀ (L : Nat → Bool) o, ops[i]? = some o → (∀ k ∈ afters o, L k = true) → (∀ j p, ops[j]? = some p → L j = true → ∀ k ∈ afters p, L k = true) → ∀ j, j < i → L j = true) →
      wpListIn (Fc rd) dp P ops Q (ops.toList.drop i) a w → ∀ fuel, k ≤ fuel → wpAnyIn (Fc rd) dp P .any ops Q fuel listed a w := by
    intro k
    induction k with
    | zero =>
      intro i listed a w hik hmi hsz heq hsink hl fuel _
      rw [List.drop_eq_nil_of_le (by simp; omega)] at hl
      exact wpAnyIn_done (hnil listed hsz fun j hj => by rw [heq]; exact decide_eq_true (by omega)) hl fuel
    | succ k ihk =>
      intro i listed a w hik hmi hsz heq hsink hl fuel hf
      match fuel, hf with
      | fuel + 1, hf =>
        refine ⟨fun hr => ?_, fun q hq => ?_⟩
        · have := hready listed hsz hr i (by omega)
          rw [heq, decide_eq_false (by omega)] at this
          cases this
        · obtain ⟨h0, o, ho, haf⟩ := mem_ready.1 hq
          have hlt : q < ops.size := (Array.getElem?_eq_some_iff.1 ho).1
          have hlq : lst listed q = false := by unfold lst; simpa [Array.getD, hsz, hlt] using h0
          have haft : ∀ k ∈ afters o, lst listed k = true := fun k hk => by
            obtain ⟨e, he, hb, rfl⟩ := mem_afters hk
            exact haf e he hb
          have hqi : ¬ q < i := fun h => by rw [heq, decide_eq_true h] at hlq; cases hlq
          have hcl : ∀ j p, ops[j]? = some p → lst listed j = true → ∀ k ∈ afters p, lst listed k = true := fun j p hp hj k hk => by
            rw [heq] at hj ⊢
            obtain ⟨e, he, _, rfl⟩ := mem_afters hk
            have h1 := (drawOk_inv hok (i := j) (by rw [hops]; exact hp)).1 e he
            have h2 : j < i := of_decide_eq_true hj
            exact decide_eq_true (by omega)
          have hqe : q = i := by
            by_cases h : i < q
            · have := hsink q (by omega) _ o ho haft hcl i h
              rw [heq, decide_eq_false (Nat.lt_irrefl i)] at this
              cases this
            · omega
          subst hqe
          have hd : ops.toList.drop q = o :: ops.toList.drop (q + 1) := by
            have hq' : q < ops.toList.length := by simpa using hlt
            rw [List.drop_eq_getElem_cons hq']
            have : ops.toList[q]? = some o := by rw [hops]; exact ho
            rw [List.getElem?_eq_getElem hq'] at this
            rw [Option.some.inj this]
          have hnext : ∀ a w, wpListIn (Fc rd) dp P ops Q (ops.toList.drop (q + 1)) a w → wpAnyIn (Fc rd) dp P .any ops Q fuel (listed.setIfInBounds q true) a w := fun a w hq' => by
            refine ihk (q + 1) _ a w (by omega) (by omega) (by simpa using hsz) (fun j => ?_) hsink hq' fuel (by omega)
            rw [lst_set (by omega), heq]
            by_cases h1 : j < q
            · simp [h1, Nat.lt_succ_of_lt h1]
            · by_cases h2 : j = q
              · simp [h2]
              · simp [h1, h2]; omega
          unfold wpOpIn
          rw [ho]
          rw [hd] at hl
          unfold wpListIn at hl
          simp only
          split at hl
          · rename_i hw
            rw [if_pos hw]
            exact Oper.wpIn_mono (fun a w h => hnext a w h) hl
          · rename_i hw
            rw [if_neg hw]
            exact ⟨hl.1, hnext _ _ hl.2⟩
  have hQ : ∀ (listed : Array Bool) (S' : Sto) (pl' : Pl) (a : Act) (w : World), (∀ j, j < ops.size → lst listed j = true) → (∀ j, m ≤ j → lst listed j = false) → Ext B S H pl S' H pl' → WRel A G B w0 S' H pl' w → TRel ds S' H pl' (lay (lst listed) 0 qs xs tmps) a → Q .normal a w := by
    intro listed S' pl' a w hall hbig hE hW hT
    rcases hend with ⟨hm, he⟩ | ⟨hm, _, _⟩
    · rw [hfull listed fun j hj => hall j (by omega)] at hT
      exact he a S' pl' w hE hW hT
    · have h1 := hall m (by omega)
      have h2 := hbig m (Nat.le_refl _)
      rw [h1] at h2
      cases h2
  intro fuel
  induction fuel with
  | zero =>
    intro listed S' pl' a w hsz hun hcl hbig hE hW hT
    have hall : ∀ j, j < ops.size → lst listed j = true := by
      intro j hj
      have h0 : ((List.range ops.size).filter fun j => !lst listed j) = [] := List.eq_nil_of_length_eq_zero (by unfold unl at hun; omega)
      have := List.filter_eq_nil_iff.1 h0 j (List.mem_range.2 hj)
      simpa using this
    exact ⟨hnil listed hsz hall, hQ listed S' pl' a w hall hbig hE hW hT⟩
  | succ fuel ih =>
    intro listed S' pl' a w hsz hun hcl hbig hE hW hT
    refine ⟨fun hr => hQ listed S' pl' a w (hready listed hsz hr) hbig hE hW hT, fun i hi => ?_⟩
    obtain ⟨h0, o, ho, haf⟩ := mem_ready.1 hi
    have hlt : i < ops.size := (Array.getElem?_eq_some_iff.1 ho).1
    have hli : lst listed i = false := by unfold lst; simpa [Array.getD, hsz, hlt] using h0
    have haft : ∀ k ∈ afters o, lst listed k = true := fun k hk => by
      obtain ⟨e, he, hb, rfl⟩ := mem_afters hk
      exact haf e he hb
    have hset := lst_set (listed := listed) (i := i) (by omega)
    by_cases him : i < m
    · have hc := hcongr listed i o ho him hli haft hcl
      obtain ⟨x, hx, hst⟩ := hstep i o ((hqs i o).2 ⟨ho, him⟩)
      have hun' : unl ops.size (listed.setIfInBounds i true) ≤ fuel := by
        have := unl_lt (p := fun j => !lst listed j) (q := fun j => !lst (listed.setIfInBounds i true) j) (i := i) (by simp [hli]) (by simp [hset]) (fun j hj => by simp [hset] at hj; simp [hj.1]) (List.range ops.size) (List.mem_range.2 hlt)
        unfold unl at hun ⊢
        omega
      have hcl' : ∀ j p, ops[j]? = some p → lst (listed.setIfInBounds i true) j = true → ∀ k ∈ afters p, lst (listed.setIfInBounds i true) k = true := fun j p hp hj k hk => by
        rw [hset] at hj ⊢
        by_cases hji : j = i
        · subst hji
          rw [ho] at hp
          obtain rfl := Option.some.inj hp
          simp [haft k hk]
        · simp only [decide_eq_false hji, Bool.or_false] at hj
          simp [hcl j p hp hj k hk]
      have hbig' : ∀ j, m ≤ j → lst (listed.setIfInBounds i true) j = false := fun j hj => by
        rw [hset, hbig j hj]
        simp
        omega
      have hlay : lay (lst (listed.setIfInBounds i true)) 0 qs xs tmps = put (lay (lst listed) 0 qs xs tmps) o.dst x := by
        apply List.ext_getElem?
        intro t
        by_cases hd : o.dst = some t
        · by_cases htl : t < tmps.length
          · rw [lay_at 0 qs xs tmps i o x ((hqs i o).2 ⟨ho, him⟩) hx hd (by rw [Nat.zero_add, hset]; simp) (fun j p hp hpd => ?_) htl, hd]
            · simp [put, lay_length, htl]
            · by_cases hij : i = j
              · exact hij.symm
              · exact absurd hd ((drawOk_inv hok (i := i) (by rw [hops]; exact ho)).2 j p t (by rw [hops]; exact ((hqs j p).1 hp).1) hpd hij).1
          · rw [List.getElem?_eq_none (by rw [lay_length]; omega), List.getElem?_eq_none (by rw [put_length, lay_length]; omega)]
        · rw [put_ne hd]
          refine lay_congr 0 qs xs tmps tmps (fun j p hp hpd => ?_) rfl rfl
          rw [Nat.zero_add, hset]
          by_cases hji : j = i
          · subst hji
            rw [((hqs j p).1 hp).1] at ho
            obtain rfl := Option.some.inj ho
            exact absurd hpd hd
          · simp [hji]
      unfold wpOpIn
      rw [ho]
      simp only
      rcases hst with ⟨hw, hx'⟩ | ⟨hw, rfl⟩
      · rw [← hwant listed i o hc] at hw
        rw [if_pos (wantA_sound hT hw)]
        refine oper_in (evOpQ_nd hx') (evOpQ_sound hG hK hT hW (by rw [evOpQ_congr (hev listed i o hc)]; exact hx') _ _ fun u S2 pl2 w2 hE2 hW2 hR => ?_)
        exact ih _ S2 pl2 _ w2 (by simpa using hsz) hun' hcl' hbig' (hE.trans hE2) hW2 (by rw [hlay]; exact (hT.mono hE2).put o.dst hR)
      · rw [← hwant listed i o hc] at hw
        rw [if_neg (by rw [wantA_sound hT hw]; decide)]
        refine And.intro (fun f _ => Fc_fn rd f) ?_
        exact ih _ S' pl' _ w (by simpa using hsz) hun' hcl' hbig' hE hW (by rw [hlay]; exact hT.put o.dst (.val _ _ (.v _)))
    · rcases hend with ⟨hm, _⟩ | ⟨hm, hsink, hlast⟩
      · omega
      · have hall' : ∀ j, j < i → lst listed j = true := hsink i (by omega) _ o ho haft hcl
        have him' : i = m := by
          by_cases h : m < i
          · have := hall' m h
            rw [hbig m (Nat.le_refl _)] at this
            cases this
          · omega
        subst him'
        rw [hfull listed hall'] at hT
        have hl := hlast a S' pl' w hE hW hT
        have heq : ∀ j, lst listed j = decide (j < i) := fun j => by
          by_cases hj : j < i
          · rw [hall' j hj, decide_eq_true hj]
          · rw [hbig j (by omega), decide_eq_false hj]
        exact (tail (ops.size - i) i listed a w (by omega) (Nat.le_refl _) hsz heq hsink hl (fuel + 1) (by
          have : unl ops.size listed = ops.size - i := by
            unfold unl
            rw [show (fun j => !lst listed j) = fun j => decide (i ≤ j) from funext fun j => by rw [heq]; by_cases hj : j < i <;> simp [hj] <;> omega]
            exact count_from i ops.size (by omega)
          omega)).2 i hi

theorem drew_W (h : WRel A G B w0 S H pl w) (hG : ∀ w', Below B w0 w' → G w') : WRel A G B w0 S H pl { w with drawn := w.drawn + 1 } :=
  ⟨⟨h.h.var, h.h.grow, h.h.apart, h.h.sep⟩, h.imm, ⟨h.below.os, h.below.tape, h.below.output, h.below.size, h.below.block⟩, h.base, hG _ ⟨h.below.os, h.below.tape, h.below.output, h.below.size, h.below.block⟩, ⟨h.keep.size, h.keep.same⟩, ⟨h.av.liv, h.av.sto, h.av.old⟩, h.kp⟩

theorem evDrawOld_sound (hM : P.follows .mixedOrders = true) (hG : ∀ w', Below B w0 w' → G w') (hK : CtxOk P C G) {call : Nat → List AV → List Blk → Option (AV × List Blk)} (hC : CallOk P C G B call) {id : Nat} {ops : Array Oper} {Q : Exit → Act → World → Prop} {s s' : St} {a : Act} (hold : oldOk C ops.toList = true)
    (e : (match evQs C P s.H ops ops.toList s.tmps with
      | some (_, t) => some ⟨t, s.H, s.base⟩
      | none => match evQs C P s.H ops (ops.toList.take (cutAt C ops.toList)) s.tmps with
        | some (_, t) => evOps C P call ops (ops.toList.drop (cutAt C ops.toList)) ⟨t, s.H, s.base⟩
        | none => none) = some s') (ht : TRel ds S s.H pl s.tmps a) (h : WRel A G B w0 S s.H pl w) (k : Post (ds := ds) P A G B w0 S s.H pl s' (Q .normal)) : (Code.region id ops true).wpIn (Fc rd) dp P Q a w := by
    have hok : drawOk ops.toList = true := by unfold oldOk at hold; rw [Bool.and_eq_true] at hold; exact hold.1
    have hskn : ¬ cutAt C ops.toList = ops.size → sinkOk C ops.toList = true := fun hne => by
      unfold oldOk at hold
      rw [Bool.and_eq_true, Bool.or_eq_true] at hold
      rcases hold.2 with h | h
      · have := cutAt_le C ops.toList
        rw [List.isEmpty_iff, List.drop_eq_nil_iff] at h
        simp at h this
        omega
      · exact h
    refine wpIn_region_any hM ?_
    have hun : unl ops.size (Array.replicate ops.size false) ≤ ops.size := by
      unfold unl
      exact Nat.le_trans (List.length_filter_le _ _) (by simp)
    have hlf : ∀ j, lst (Array.replicate ops.size false) j = false := fun j => by
      unfold lst
      by_cases hj : j < ops.size <;> simp [hj]
    have hlay0 : ∀ (qs : List Oper) (xs : List AV), lay (lst (Array.replicate ops.size false)) 0 qs xs s.tmps = s.tmps := by
      have : lst (Array.replicate ops.size false) = fun _ => false := funext hlf
      rw [this]
      have hnone : ∀ (k : Nat) (os : List Oper) (xs tmps : List AV), lay (fun _ => false) k os xs tmps = tmps := by
        intro k os
        induction os generalizing k with
        | nil => intro xs tmps; rfl
        | cons o os ih => intro xs tmps; cases xs with
          | nil => rfl
          | cons x xs => rw [lay]; simp [ih]
      exact fun qs xs => hnone 0 qs xs s.tmps
    split at e
    · rename_i xs t hq
      obtain rfl := Option.some.inj e
      obtain ⟨h1, h2, h3⟩ := evQs_inv _ _ _ _ hq
      refine draw_any hM hG hK hok (S := S) (H := s.H) (pl := pl) (qs := ops.toList) (tmps := s.tmps) (xs := xs) (m := ops.size) (fun i o => ⟨fun hh => ?_, fun hh => by simpa using hh.1⟩) (by simp) (by simp [h1]) h3 (.inl ⟨rfl, fun a S2 pl2 w2 hE hW hT => ?_⟩) _ _ S pl a _ (by simp) hun (fun j o _ hj => by rw [hlf] at hj; cases hj) (fun j _ => hlf j) (Ext.refl _ _ _) (drew_W h hG) (by rw [hlay0]; exact ht)
      · have hh' : ops[i]? = some o := by simpa using hh
        exact ⟨hh', (Array.getElem?_eq_some_iff.1 hh').1⟩
      · rw [← h2] at hT
        exact k a S2 pl2 w2 hE hW hT
    · split at e
      · rename_i xs t hq
        obtain ⟨h1, h2, h3⟩ := evQs_inv _ _ _ _ hq
        have hcl := cutAt_le C ops.toList
        have hcl : cutAt C ops.toList ≤ ops.size := by simpa using hcl
        have hlast : ∀ a S2 pl2 w2, Ext B S s.H pl S2 s.H pl2 → WRel A G B w0 S2 s.H pl2 w2 → TRel ds S2 s.H pl2 (lay (fun _ => true) 0 (ops.toList.take (cutAt C ops.toList)) xs s.tmps) a → wpListIn (Fc rd) dp P ops Q (ops.toList.drop (cutAt C ops.toList)) a w2 := fun a S2 pl2 w2 hE hW hT => by
          rw [← h2] at hT
          exact evOps_sound hG hK hC _ ⟨t, s.H, s.base⟩ s' S2 pl2 a w2 e hT hW fun a3 S3 pl3 w3 hE3 hW3 hT3 => k a3 S3 pl3 w3 (hE.trans hE3) hW3 hT3
        have hqs : ∀ (i : Nat) o, (ops.toList.take (cutAt C ops.toList))[i]? = some o ↔ (ops[i]? = some o ∧ i < cutAt C ops.toList) := fun i o => by
          rw [List.getElem?_take]
          by_cases hi : i < cutAt C ops.toList
          · rw [if_pos hi]; simp [hi]
          · rw [if_neg hi]; exact ⟨(fun hh => by cases hh), (fun hh => absurd hh.2 hi)⟩
        have hend : cutAt C ops.toList = ops.size ∧ (∀ a S' pl' w', Ext B S s.H pl S' s.H pl' → WRel A G B w0 S' s.H pl' w' → TRel ds S' s.H pl' (lay (fun _ => true) 0 (ops.toList.take (cutAt C ops.toList)) xs s.tmps) a → Q .normal a w') ∨
            cutAt C ops.toList < ops.size ∧ (∀ i, cutAt C ops.toList ≤ i → ∀ (L : Nat → Bool) o, ops[i]? = some o → (∀ k ∈ afters o, L k = true) → (∀ j p, ops[j]? = some p → L j = true → ∀ k ∈ afters p, L k = true) → ∀ j, j < i → L j = true) ∧ ∀ a S' pl' w', Ext B S s.H pl S' s.H pl' → WRel A G B w0 S' s.H pl' w' → TRel ds S' s.H pl' (lay (fun _ => true) 0 (ops.toList.take (cutAt C ops.toList)) xs s.tmps) a → wpListIn (Fc rd) dp P ops Q (ops.toList.drop (cutAt C ops.toList)) a w' := by
          by_cases hfull : cutAt C ops.toList = ops.size
          · refine .inl ⟨hfull, fun a S2 pl2 w2 hE hW hT => ?_⟩
            have := hlast a S2 pl2 w2 hE hW hT
            rwa [List.drop_eq_nil_of_le (by simp; omega)] at this
          · refine .inr ⟨by omega, fun i hi L o ho hL hclo => ?_, hlast⟩
            have hsk := sinkFrom_get _ _ (hskn hfull) (i - cutAt C ops.toList) o (by rw [List.getElem?_drop, show cutAt C ops.toList + (i - cutAt C ops.toList) = i by omega]; simpa using ho)
            rw [show cutAt C ops.toList + (i - cutAt C ops.toList) = i by omega] at hsk
            exact sinkR_sound L (fun j p hp => hclo j p (by simpa using hp)) _ _ hsk hL
        exact draw_any hM hG hK hok (S := S) (H := s.H) (pl := pl) (qs := ops.toList.take (cutAt C ops.toList)) (tmps := s.tmps) (xs := xs) (m := cutAt C ops.toList) hqs (by simp; omega) (by rw [h1]; simp; omega) h3 hend _ _ S pl a _ (by simp) hun (fun j o _ hj => by rw [hlf] at hj; cases hj) (fun j _ => hlf j) (Ext.refl _ _ _) (drew_W h hG) (by rw [hlay0]; exact ht)
      · cases e
end
end Go.Proofs.Ytkifbcjmmkbilaa.Av
