/- Rows of operations whose order is drawn, and that write: the text's order answers all the same, where those that must wait do. -/
import Derived.Test.YtkifbcjmmkbilaaDoorAvL
set_option linter.unusedVariables false
set_option linter.unusedSimpArgs false
set_option linter.unusedSectionVars false
namespace Go.Proofs.YtkifbcjmmkbilaaDoor.Av
open Go Go.RowKit
variable {P : Program}
section
variable {S : Sto} {H : List Blk} {pl : Pl} {G : World → Prop} {B : Nat} {w0 w : World} {C : Ctx}

theorem evOpE_congr {call : Nat → List AV → List Blk → Option (AV × List Blk)} {t1 t2 : List AV} {o : Oper} (h : ∀ x ∈ o.op.operands, evA t1 x = evA t2 x) : evOpE C call t1 H o = evOpE C call t2 H o := by
  cases ho : o.op with
  | assign x =>
    unfold evOpE
    rw [ho]
    cases x with
    | const v => cases v with
      | slice a n c => cases a with
        | none => cases n with
          | zero => cases c <;> rfl
          | succ n => rfl
        | some a => rfl
      | _ => rfl
    | _ => rfl
  | slice t x lo hi mx =>
    have hx := h x (by simp [ho, Op.operands])
    have h1 := omap_congr (t1 := t1) (t2 := t2) (x := lo) (fun y hy => h y (by cases lo <;> simp_all [ho, Op.operands]))
    have h2 := omap_congr (t1 := t1) (t2 := t2) (x := hi) (fun y hy => h y (by cases hi <;> simp_all [ho, Op.operands]))
    have h3 := omap_congr (t1 := t1) (t2 := t2) (x := mx) (fun y hy => h y (by cases mx <;> simp_all [ho, Op.operands]))
    simp only [evOpE, ho, hx, h1, h2, h3]
  | convert s d x => have hx := h x (by simp [ho, Op.operands]); simp only [evOpE, ho, hx]
  | alloc t => simp only [evOpE, ho]
  | box t x => have hx := h x (by simp [ho, Op.operands]); simp only [evOpE, ho, hx]
  | store t x y =>
    have hx := h x (by simp [ho, Op.operands])
    have hy := h y (by simp [ho, Op.operands])
    simp only [evOpE, ho, hx, hy]
  | buildSlice t n parts =>
    have hp : (parts.toList.map fun p => (p.1, evA t1 p.2)) = (parts.toList.map fun p => (p.1, evA t2 p.2)) := by
      apply List.map_congr_left
      intro p hp
      rw [h p.2 (by simp only [ho, Op.operands, List.mem_toArray]; exact List.mem_map.2 ⟨p, hp, rfl⟩)]
    simp only [evOpE, ho, hp]
  | call c =>
    have ha := map_congr' (t1 := t1) (t2 := t2) (xs := c.args.toList) (fun x hx => h x (by simp at hx; simp [ho, Op.operands, Call.operands, hx]))
    cases hc : c.callee with
    | value f =>
      have hf := h f (by simp [ho, Op.operands, Call.operands, hc])
      simp only [evOpE, ho, hc, hf, ha]
    | invoke r m => simp only [evOpE, ho, hc]
    | builtin b =>
      cases b <;> simp only [evOpE, ho, hc]
      split
      · rename_i s x t t' hxs hts
        have hs := h s (by
          have : s ∈ c.args.toList := by rw [hxs]; simp
          simp at this
          simp [ho, Op.operands, Call.operands, this])
        have hx := h x (by
          have : x ∈ c.args.toList := by rw [hxs]; simp
          simp at this
          simp [ho, Op.operands, Call.operands, this])
        simp only [hs, hx]
      · rfl
  | _ => simp only [evOpE, ho]
theorem evOp_congr {call : Nat → List AV → List Blk → Option (AV × List Blk)} {t1 t2 : List AV} {o : Oper} (h : ∀ x ∈ o.op.operands, evA t1 x = evA t2 x) : evOp C P call t1 H o = evOp C P call t2 H o := by
  unfold evOp
  rw [evOpE_congr h, evOpQ_congr h]
/-- What looks at no memory. -/
theorem pureQ_eq {H1 H2 : List Blk} {tmps : List AV} {o : Oper} (h : memQ o = false) : evOpQ C P tmps H1 o = evOpQ C P tmps H2 o := by
  unfold memQ at h
  cases ho : o.op with
  | binOp b t x y t' =>
    unfold evOpQ
    rw [ho]
    cases b <;> rfl
  | makeFunc fn first caps =>
    unfold evOpQ
    rw [ho]
    cases fn <;> rfl
  | _ => rw [ho] at h; first | (cases h; done) | (simp only [evOpQ, ho]; done) | (simp only [evOpQ, ho]; rfl)

theorem clo_sub {ops : List Oper} (L : Nat → Bool) (hcl : ∀ j p, ops[j]? = some p → L j = true → ∀ k ∈ afters p, L k = true) : ∀ (n : Nat) (R : List Nat), (∀ k ∈ R, L k = true) → ∀ k ∈ clo ops n R, L k = true
  | 0, R, hR, k, hk => hR k hk
  | n + 1, R, hR, k, hk => by
    rw [clo] at hk
    refine clo_sub L hcl n _ ?_ k hk
    intro q hq
    split at hq
    · rename_i hn
      have hLn : L n = true := hR n (by simpa using hn)
      split at hq
      · rename_i p hp
        rcases List.mem_append.1 hq with hq | hq
        · exact hcl n p hp hLn q hq
        · exact hR q hq
      · exact hR q hq
    · exact hR q hq

theorem newOk_inv {ops : List Oper} (h : newOk C ops = true) {i : Nat} {o : Oper} (ho : ops[i]? = some o) :
    (∀ k ∈ afters o, k < i) ∧ (∀ (j : Nat) p t, ops[j]? = some p → p.dst = some t → i ≠ j → o.dst ≠ some t ∧ (t ∈ reads ops o → if j < i then j ∈ afters o else i ∈ afters p)) ∧
    ∀ (j : Nat) p, ops[j]? = some p → j < i → mustWait C (floatAt C ops) o i p j = true → j ∈ clo ops i (afters o) := by
  have hm : (o, i) ∈ ops.zipIdx := by
    rw [List.mem_zipIdx_iff_getElem?]
    exact ho
  have := List.all_eq_true.1 h _ hm
  simp only [Bool.and_eq_true, List.all_eq_true] at this
  obtain ⟨⟨⟨h1, _⟩, h2⟩, h4⟩ := this
  refine ⟨fun k hk => by simpa using h1 k hk, fun j p t hp hd hij => ?_, fun j p hp hj hm => ?_⟩
  · have hm' : (p, j) ∈ ops.zipIdx := by
      rw [List.mem_zipIdx_iff_getElem?]
      exact hp
    have h3 := h2 _ hm'
    simp only [hd, Bool.or_eq_true, Bool.and_eq_true, Bool.not_eq_true', beq_iff_eq, beq_eq_false_iff_ne] at h3
    rcases h3 with h3 | ⟨h3, h4⟩
    · exact absurd h3 hij
    · refine ⟨h3, fun ht => ?_⟩
      rcases h4 with h4 | h4
      · rw [List.contains_eq_mem] at h4
        simp [ht] at h4
      · split at h4
        · rename_i hlt; rw [if_pos hlt]; simpa using h4
        · rename_i hlt; rw [if_neg hlt]; simpa using h4
  · have hm' : (p, j) ∈ ops.zipIdx := by
      rw [List.mem_zipIdx_iff_getElem?]
      exact hp
    have h5 := h4 _ hm'
    simp only [Bool.or_eq_true, hm, Bool.not_true, decide_eq_true hj, Bool.false_eq_true, or_false, false_or] at h5
    simpa using h5

/-- The steps of the text's order. -/
def Steps (C : Ctx) (P : Program) (call : Nat → List AV → List Blk → Option (AV × List Blk)) (ops : Array Oper) (k0 : Nat) (l : List Oper) (X : Nat → AV) (D : Nat → Ds) : Prop :=
  ∀ (j : Nat) o, l[j]? = some o → stD C P call ops (floatAt C ops.toList) (waitsF C ops.toList (k0 + j) o) (k0 + j) o (D j) = some (X j, D (j + 1))
theorem evD_inv {call : Nat → List AV → List Blk → Option (AV × List Blk)} {ops : Array Oper} : ∀ (l : List Oper) (k : Nat) (d d' : Ds), evD C P call ops k l d = some d' → ∃ (X : Nat → AV) (D : Nat → Ds), D 0 = d ∧ D l.length = d' ∧ Steps C P call ops k l X D
  | [], k, d, d', e => by
    simp only [evD, Option.some.injEq] at e
    subst e
    exact ⟨fun _ => .any, fun _ => d, rfl, rfl, fun j o h => by simp at h⟩
  | o :: l, k, d, d', e => by
    simp only [evD] at e
    split at e
    · rename_i x d1 hs
      obtain ⟨X, D, h0, h1, h2⟩ := evD_inv l (k + 1) d1 d' e
      refine ⟨fun j => match j with | 0 => x | j + 1 => X j, fun j => match j with | 0 => d | j + 1 => D j, rfl, by simpa using h1, fun j p hp => ?_⟩
      cases j with
      | zero =>
        simp at hp
        subst hp
        simpa [h0] using hs
      | succ j =>
        have := h2 j p (by simpa using hp)
        simpa [Nat.add_assoc, Nat.add_comm 1 j] using this
    · cases e

/-- The last loud one that is listed, and one more. -/
def top (lo L : Nat → Bool) : Nat → Nat
  | 0 => 0
  | i + 1 => if lo i && L i then i + 1 else top lo L i
theorem top_congr {lo L1 L2 : Nat → Bool} : ∀ n, (∀ j, j < n → lo j = true → L1 j = L2 j) → top lo L1 n = top lo L2 n
  | 0, _ => rfl
  | n + 1, h => by
    have ih := top_congr n fun j hj => h j (by omega)
    rw [top, top, ih]
    cases hl : lo n with
    | false => rfl
    | true => rw [h n (by omega) hl]
theorem top_le {lo L : Nat → Bool} : ∀ n, top lo L n ≤ n
  | 0 => Nat.le_refl _
  | n + 1 => by
    rw [top]
    split
    · exact Nat.le_refl _
    · have := top_le (lo := lo) (L := L) n; omega
theorem top_none {lo L : Nat → Bool} : ∀ n, (∀ j, j < n → lo j = true → L j = false) → top lo L n = 0
  | 0, _ => rfl
  | n + 1, h => by
    rw [top, top_none n fun j hj => h j (by omega)]
    cases hl : lo n with
    | false => rfl
    | true => rw [h n (by omega) hl]; rfl
theorem top_is {lo L : Nat → Bool} {i : Nat} (hi : lo i = true) (hL : L i = true) : ∀ n, i < n → (∀ j, i < j → j < n → lo j = true → L j = false) → top lo L n = i + 1
  | n + 1, h, hj => by
    rw [top]
    by_cases he : n = i
    · subst he; rw [hi, hL]; rfl
    · have ih := top_is hi hL n (by omega) fun j h1 h2 => hj j h1 (by omega)
      rw [ih]
      cases hl : lo n with
      | false => rfl
      | true => rw [hj n (by omega) (by omega) hl]; rfl

theorem Ds.q_none {d : Ds} {w : Bool} (h : d.pre = none) : d.q w = d.H := by unfold Ds.q; rw [h]
theorem lay_none : ∀ (k : Nat) (os : List Oper) (xs tmps : List AV), lay (fun _ => false) k os xs tmps = tmps
  | k, [], xs, tmps => rfl
  | k, o :: os, [], tmps => rfl
  | k, o :: os, x :: xs, tmps => by rw [lay]; simp [lay_none (k + 1) os xs tmps]
theorem lay_lt : ∀ (os : List Oper) (xs tmps : List AV) (j : Nat), xs.length = os.length → lay (fun q => decide (q < j)) 0 os xs tmps = lay (fun _ => true) 0 (os.take j) (xs.take j) tmps
  | [], xs, tmps, j, h => by simp [lay]
  | o :: os, [], tmps, j, h => by cases h
  | o :: os, x :: xs, tmps, 0, h => by
    have : (fun q : Nat => decide (q < 0)) = fun _ => false := by funext q; simp
    rw [this, lay_none]
    rfl
  | o :: os, x :: xs, tmps, j + 1, h => by
    rw [List.take_succ_cons, List.take_succ_cons, lay, lay, lay_shift, lay_shift]
    have : (fun q => decide (q + 1 < j + 1)) = fun q => decide (q < j) := by funext q; simp
    rw [this, lay_lt os xs _ j (by simpa using h)]
    simp
theorem lay_snoc : ∀ (os : List Oper) (xs tmps : List AV) (o : Oper) (x : AV), xs.length = os.length → lay (fun _ => true) 0 (os ++ [o]) (xs ++ [x]) tmps = put (lay (fun _ => true) 0 os xs tmps) o.dst x
  | [], [], tmps, o, x, _ => rfl
  | [], y :: xs, tmps, o, x, h => by cases h
  | q :: os, [], tmps, o, x, h => by cases h
  | q :: os, y :: xs, tmps, o, x, h => by
    rw [List.cons_append, List.cons_append, lay, lay, lay_shift, lay_shift]
    exact lay_snoc os xs _ o x (by simpa using h)
theorem cutAt_quiet : ∀ (l : List Oper) (j : Nat) o, l[j]? = some o → j < cutAt C l → quietOp C [] o = true
  | [], j, o, h, _ => by simp at h
  | p :: l, j, o, h, hj => by
    unfold cutAt at hj
    split at hj
    · rename_i hq
      cases j with
      | zero => simp at h; subst h; exact hq
      | succ j => exact cutAt_quiet l j o (by simpa using h) (by omega)
    · omega
theorem cutAt_loud : ∀ (l : List Oper) o, l[cutAt C l]? = some o → quietOp C [] o = false
  | [], o, h => by simp at h
  | p :: l, o, h => by
    unfold cutAt at h
    split at h
    · exact cutAt_loud l o (by simpa using h)
    · rename_i hq
      simp at h
      subst h
      exact hq
theorem floatAt_some {ops : List Oper} {f : Nat} (h : floatAt C ops = some f) : f = cutAt C ops ∧ ∃ o t, ops[f]? = some o ∧ o.op = .alloc t ∧ o.guard = none := by
  unfold floatAt at h
  split at h
  · rename_i o ho
    split at h
    · rename_i t hop hg
      obtain rfl := Option.some.inj h
      exact ⟨rfl, o, t, ho, hop, hg⟩
    · cases h
  · cases h
def lou (C : Ctx) (ops : List Oper) (j : Nat) : Bool := match ops[j]? with
  | some p => !quietOp C [] p
  | none => false
theorem lou_of {ops : List Oper} {j : Nat} {p : Oper} (h : ops[j]? = some p) : lou C ops j = !quietOp C [] p := by unfold lou; rw [h]

section
variable {call : Nat → List AV → List Blk → Option (AV × List Blk)} {ops : Array Oper} {X : Nat → AV} {D : Nat → Ds} {tmps : List AV}
theorem st_tmps {f : Option Nat} {w : Bool} {k : Nat} {o : Oper} {d d' : Ds} {x : AV} (e : stD C P call ops f w k o d = some (x, d')) : d'.tmps = put d.tmps o.dst x := by
  unfold stD at e
  split at e
  · split at e
    · split at e
      · simp only [Option.some.injEq, Prod.mk.injEq] at e; obtain ⟨rfl, rfl⟩ := e; rfl
      · cases e
    · split at e
      · simp only [Option.some.injEq, Prod.mk.injEq] at e; obtain ⟨rfl, rfl⟩ := e; rfl
      · cases e
  · simp only [Option.some.injEq, Prod.mk.injEq] at e; obtain ⟨rfl, rfl⟩ := e; rfl
  · cases e
theorem st_quiet {f : Option Nat} {w : Bool} {k : Nat} {o : Oper} {d d' : Ds} {x : AV} (hq : quietOp C [] o = true) (e : stD C P call ops f w k o d = some (x, d')) : d'.H = d.H ∧ d'.pre = d.pre := by
  unfold stD at e
  simp only [hq, if_true] at e
  split at e
  · split at e
    · simp only [Option.some.injEq, Prod.mk.injEq] at e; obtain ⟨rfl, rfl⟩ := e; exact ⟨rfl, rfl⟩
    · cases e
  · simp only [Option.some.injEq, Prod.mk.injEq] at e; obtain ⟨rfl, rfl⟩ := e; exact ⟨rfl, rfl⟩
  · cases e
theorem st_float {f k : Nat} {w : Bool} {o : Oper} {d d' : Ds} {x : AV} {t : Nat} (hq : quietOp C [] o = false) (hop : o.op = .alloc t) (hg : o.guard = none) (e : stD C P call ops (some f) w f o d = some (x, d')) : (∃ b, d'.H = d.H ++ b) ∧ d'.pre = some d.H := by
  unfold stD at e
  have hw : wantA ops d.tmps o = some true := by simp only [wantA, hg]
  simp only [hw, hq] at e
  split at e
  · rename_i y H' ho
    simp only [Option.some.injEq, Prod.mk.injEq, beq_self_eq_true, if_true] at e
    obtain ⟨rfl, rfl⟩ := e
    refine ⟨?_, rfl⟩
    unfold evOp at ho
    simp only [evOpE, hop] at ho
    split at ho
    · rename_i r hr
      split at hr
      · obtain rfl := Option.some.inj hr
        simp only [Option.some.injEq, Prod.mk.injEq] at ho
        exact ⟨_, ho.2.symm⟩
      · split at hr
        · obtain rfl := Option.some.inj hr
          simp only [Option.some.injEq, Prod.mk.injEq] at ho
          exact ⟨_, ho.2.symm⟩
        · cases hr
    · simp only [evOpQ, hop] at ho
      cases ho
  · cases e
theorem st_loud {f : Option Nat} {w : Bool} {k : Nat} {o : Oper} {d d' : Ds} {x : AV} (hq : quietOp C [] o = false) (hf : f ≠ some k) (e : stD C P call ops f w k o d = some (x, d')) : d'.pre = none := by
  have hf' : (f == some k) = false := by
    cases f with
    | none => rfl
    | some g => simp at hf; simpa using hf
  unfold stD at e
  simp only [hq, hf'] at e
  split at e
  · split at e
    · simp only [Option.some.injEq, Prod.mk.injEq] at e; obtain ⟨rfl, rfl⟩ := e; rfl
    · cases e
  · simp only [Option.some.injEq, Prod.mk.injEq] at e; obtain ⟨rfl, rfl⟩ := e; rfl
  · cases e

variable (hst : Steps C P call ops 0 ops.toList X D) (h0 : D 0 = ⟨tmps, H, none⟩)
include hst h0
theorem D_tmps : ∀ j, j ≤ ops.size → (D j).tmps = lay (fun q => decide (q < j)) 0 ops.toList ((List.range ops.size).map X) tmps
  | 0, _ => by
    have : (fun q : Nat => decide (q < 0)) = fun _ => false := by funext q; simp
    rw [this, lay_none, h0]
  | j + 1, h => by
    have hj : ops.toList[j]? = some ops[j] := by simp [h]
    have e := hst j _ hj
    rw [st_tmps e, D_tmps j (by omega), lay_lt _ _ _ j (by simp), lay_lt _ _ _ (j + 1) (by simp)]
    have h1 : ops.toList.take (j + 1) = ops.toList.take j ++ [ops[j]] := by
      rw [List.take_succ_eq_append_getElem (by simp; omega)]
      simp
    have h2 : ((List.range ops.size).map X).take (j + 1) = ((List.range ops.size).map X).take j ++ [X j] := by
      rw [List.take_succ_eq_append_getElem (by simp; omega)]
      simp
    rw [h1, h2, lay_snoc _ _ _ _ _ (by simp)]
theorem D_top : ∀ j, j ≤ ops.size → (D (top (lou C ops.toList) (fun i => decide (i < j)) ops.size)).H = (D j).H
  | 0, _ => by rw [top_none _ fun i _ _ => by simp]
  | j + 1, h => by
    have hj : ops.toList[j]? = some ops[j] := by simp [h]
    cases hl : lou C ops.toList j with
    | true => rw [top_is (i := j) hl (by simp) _ (by omega) fun i h1 _ _ => by simp; omega]
    | false =>
      rw [lou_of hj] at hl
      have hq : quietOp C [] ops[j] = true := by simpa using hl
      rw [(st_quiet hq (hst j _ hj)).1, ← D_top j (by omega)]
      rw [top_congr (L2 := fun i => decide (i < j)) _ fun i hi hli => ?_]
      by_cases he : i = j
      · subst he; rw [lou_of hj, hq] at hli; cases hli
      · simp only [decide_eq_decide]; omega
theorem D_pre : ∀ j, j ≤ ops.size → ∀ H0, (D j).pre = some H0 → ∃ f, floatAt C ops.toList = some f ∧ f < j ∧ H0 = (D f).H ∧ ∀ i, f < i → i < j → lou C ops.toList i = false
  | 0, _, H0, h => by rw [h0] at h; cases h
  | j + 1, hj, H0, h => by
    have ho : ops.toList[j]? = some ops[j] := by simp [hj]
    have e := hst j _ ho
    cases hq : quietOp C [] ops[j] with
    | true =>
      rw [(st_quiet hq e).2] at h
      obtain ⟨f, h1, h2, h3, h4⟩ := D_pre j (by omega) H0 h
      refine ⟨f, h1, by omega, h3, fun i hi1 hi2 => ?_⟩
      by_cases he : i = j
      · subst he; rw [lou_of ho, hq]; rfl
      · exact h4 i hi1 (by omega)
    | false =>
      by_cases hf : floatAt C ops.toList = some (0 + j)
      · obtain ⟨_, o', t, ho', hop, hg⟩ := floatAt_some hf
        rw [Nat.zero_add] at ho'
        rw [ho] at ho'
        obtain rfl := Option.some.inj ho'
        rw [hf] at e
        have := (st_float (k := 0) hq hop hg (by simpa using e)).2
        rw [h] at this
        exact ⟨j, by simpa using hf, by omega, Option.some.inj this, fun i h1 h2 => by omega⟩
      · rw [st_loud hq hf e] at h
        cases h
theorem D_pre' {f : Nat} (hf : floatAt C ops.toList = some f) : ∀ j, j ≤ ops.size → f < j → (∀ i, f < i → i < j → lou C ops.toList i = false) → (D j).pre = some (D f).H
  | 0, _, h, _ => by omega
  | j + 1, hj, hfj, hno => by
    have ho : ops.toList[j]? = some ops[j] := by simp [hj]
    have e := hst j _ ho
    by_cases he : f = j
    · subst he
      obtain ⟨hc, o', t, ho', hop, hg⟩ := floatAt_some hf
      rw [ho] at ho'
      obtain rfl := Option.some.inj ho'
      have hq : quietOp C [] ops[f] = false := cutAt_loud _ _ (by rw [← hc]; exact ho)
      rw [hf] at e
      exact (st_float (k := 0) hq hop hg (by simpa using e)).2
    · have hq : quietOp C [] ops[j] = true := by
        have := hno j (by omega) (by omega)
        rw [lou_of ho] at this
        simpa using this
      rw [(st_quiet hq e).2]
      exact D_pre' hf j (by omega) (by omega) fun i h1 h2 => hno i h1 (by omega)
theorem D_float {f : Nat} (hf : floatAt C ops.toList = some f) : ∃ b, (D (f + 1)).H = (D f).H ++ b := by
  obtain ⟨hc, o', t, ho', hop, hg⟩ := floatAt_some hf
  have e := hst f _ ho'
  have hq : quietOp C [] o' = false := cutAt_loud _ _ (by rw [← hc]; exact ho')
  rw [hf] at e
  exact (st_float (k := 0) hq hop hg (by simpa using e)).1
theorem no_loud {f j : Nat} (hf : floatAt C ops.toList = some f) (hj : j < f) : lou C ops.toList j = false := by
  obtain ⟨hc, o', t, ho', _⟩ := floatAt_some hf
  have : j < ops.toList.length := by have := (List.getElem?_eq_some_iff.1 ho').1; omega
  rw [lou_of (List.getElem?_eq_getElem this), cutAt_quiet _ _ _ (List.getElem?_eq_getElem this) (by rw [← hc]; exact hj)]
  rfl

/-- A loud one finds the memory of the text's order. -/
theorem loud_at (hok : newOk C ops.toList = true) {L : Nat → Bool} (hcl : ∀ j p, ops.toList[j]? = some p → L j = true → ∀ k ∈ afters p, L k = true) {i : Nat} {o : Oper} (ho : ops.toList[i]? = some o) (hli : L i = false) (haf : ∀ k ∈ afters o, L k = true)
    (hq : quietOp C [] o = false) : ∀ j, lou C ops.toList j = true → L j = decide (j < i) := by
  intro j hlj
  unfold lou at hlj
  split at hlj
  · rename_i p hp
    have hqp : quietOp C [] p = false := by simpa using hlj
    by_cases hji : j < i
    · rw [decide_eq_true hji]
      exact clo_sub L hcl i _ haf j ((newOk_inv hok ho).2.2 j p hp hji (by simp [mustWait, hq, hqp]))
    · rw [decide_eq_false hji]
      by_cases he : j = i
      · rw [he]; exact hli
      · cases hLj : L j with
        | false => rfl
        | true =>
          have := clo_sub L hcl j _ (hcl j p hp hLj) i ((newOk_inv hok hp).2.2 i o ho (by omega) (by simp [mustWait, hq, hqp]))
          rw [hli] at this
          cases this
  · cases hlj
theorem quiet_at (hok : newOk C ops.toList = true) {L : Nat → Bool} (hcl : ∀ j p, ops.toList[j]? = some p → L j = true → ∀ k ∈ afters p, L k = true) {i : Nat} {o : Oper} (ho : ops.toList[i]? = some o) (hli : L i = false) (haf : ∀ k ∈ afters o, L k = true)
    (hq : quietOp C [] o = true) {x : AV} (e : evOpQ C P (D i).tmps ((D i).q (waitsF C ops.toList i o)) o = some x) : evOpQ C P (D i).tmps (D (top (lou C ops.toList) L ops.size)).H o = some x := by
  have hi : i < ops.size := by simpa using (List.getElem?_eq_some_iff.1 ho).1
  cases hm : memQ o with
  | false => rw [pureQ_eq hm]; exact e
  | true =>
    have key : ∀ j, lou C ops.toList j = true → floatAt C ops.toList ≠ some j → L j = decide (j < i) := by
      intro j hlj hfj
      have hf' : (floatAt C ops.toList == some j) = false := by
        cases hf : floatAt C ops.toList with
        | none => rfl
        | some g => rw [hf] at hfj; simp at hfj; simpa using hfj
      unfold lou at hlj
      split at hlj
      · rename_i p hp
        have hqp : quietOp C [] p = false := by simpa using hlj
        by_cases hji : j < i
        · rw [decide_eq_true hji]
          exact clo_sub L hcl i _ haf j ((newOk_inv hok ho).2.2 j p hp hji (by simp only [mustWait, hq, hqp, hm, hf']; rfl))
        · rw [decide_eq_false hji]
          by_cases he : j = i
          · rw [he]; exact hli
          · cases hLj : L j with
            | false => rfl
            | true =>
              have := clo_sub L hcl j _ (hcl j p hp hLj) i ((newOk_inv hok hp).2.2 i o ho (by omega) (by simp only [mustWait, hq, hqp, hm, hf']; rfl))
              rw [hli] at this
              cases this
      · cases hlj
    have hloi : lou C ops.toList i = false := by rw [lou_of ho, hq]; rfl
    cases hf : floatAt C ops.toList with
    | none =>
      rw [top_congr (L2 := fun j => decide (j < i)) _ fun j _ hl => key j hl (by rw [hf]; simp), D_top hst h0 i (by omega)]
      have hp : (D i).pre = none := by
        cases hp : (D i).pre with
        | none => rfl
        | some H0 => obtain ⟨f, h1, _⟩ := D_pre hst h0 i (by omega) H0 hp; rw [hf] at h1; cases h1
      rwa [Ds.q_none hp] at e
    | some f =>
      have hfn : f < ops.size := by
        obtain ⟨_, o', t, ho', _⟩ := floatAt_some hf
        simpa using (List.getElem?_eq_some_iff.1 ho').1
      have hlf : lou C ops.toList f = true := by
        obtain ⟨hc, o', t, ho', _⟩ := floatAt_some hf
        rw [lou_of ho', cutAt_loud _ _ (by rw [← hc]; exact ho')]
        rfl
      obtain ⟨b, hb⟩ := D_float hst h0 hf
      have hDf : (D f).H = (D 0).H := by
        rw [← D_top hst h0 f (by omega), top_none]
        intro j _ hl
        simp only [decide_eq_false_iff_not]
        intro hj
        rw [no_loud hst h0 hf hj] at hl
        cases hl
      have hfi : f ≠ i := fun he => by rw [he, hloi] at hlf; cases hlf
      by_cases hLf : L f = decide (f < i)
      · rw [top_congr (L2 := fun j => decide (j < i)) _ fun j _ hl => by
          by_cases he : j = f
          · rw [he]; exact hLf
          · exact key j hl (by rw [hf]; simp; exact fun e => he e.symm), D_top hst h0 i (by omega)]
        cases hp : (D i).pre with
        | none => rwa [Ds.q_none hp] at e
        | some H0 =>
          obtain ⟨f', h1, h2, h3, h4⟩ := D_pre hst h0 i (by omega) H0 hp
          rw [hf] at h1
          obtain rfl := Option.some.inj h1
          have hDi : (D i).H = (D f).H ++ b := by
            rw [← hb, ← D_top hst h0 i (by omega), top_is (i := f) hlf (by simpa using h2) _ (by omega) fun j h5 _ hl => ?_]
            simp only [decide_eq_false_iff_not]
            intro hj
            rw [h4 j h5 hj] at hl
            cases hl
          unfold Ds.q at e
          rw [hp] at e
          cases hw : waitsF C ops.toList i o with
          | true => rw [hw] at e; exact e
          | false => rw [hw] at e; rw [hDi, ← h3]; exact evOpQ_more _ e
      · by_cases hlt : f < i
        · have hLff : L f = false := by rw [decide_eq_true hlt] at hLf; simpa using hLf
          have hw : waitsF C ops.toList i o = false := by
            unfold waitsF
            rw [hf]
            cases hc : (clo ops.toList i (afters o)).contains f with
            | false => exact hc
            | true =>
              have := clo_sub L hcl i _ haf f (by simpa using hc)
              rw [hLff] at this
              cases this
          have hno : ∀ j, f < j → j < i → lou C ops.toList j = false := fun j h1 h2 => by
            cases hl : lou C ops.toList j with
            | false => rfl
            | true =>
              have hLj := key j hl (by rw [hf]; simp; omega)
              rw [decide_eq_true h2] at hLj
              have hl' := hl
              unfold lou at hl
              split at hl
              · rename_i p hp
                have hqp : quietOp C [] p = false := by simpa using hl
                obtain ⟨hc, o', t, ho', hop, hg⟩ := floatAt_some hf
                have hqf : quietOp C [] o' = false := cutAt_loud _ _ (by rw [← hc]; exact ho')
                have := clo_sub L hcl j _ (hcl j p hp hLj) f ((newOk_inv hok hp).2.2 f o' ho' h1 (by simp [mustWait, hqp, hqf]))
                rw [hLff] at this
                cases this
              · cases hl
          have hp := D_pre' hst h0 hf i (by omega) hlt hno
          unfold Ds.q at e
          rw [hp, hw] at e
          rw [top_none, ← hDf]
          · exact e
          · intro j _ hl
            by_cases he : j = f
            · rw [he]; exact hLff
            · rw [key j hl (by rw [hf]; simp; exact fun e => he e.symm)]
              simp only [decide_eq_false_iff_not]
              intro hj
              by_cases hjf : j < f
              · rw [no_loud hst h0 hf hjf] at hl; cases hl
              · rw [hno j (by omega) hj] at hl; cases hl
        · have hLft : L f = true := by rw [decide_eq_false hlt] at hLf; simpa using hLf
          have hno : ∀ j, lou C ops.toList j = true → j ≠ f → L j = false := fun j hl he => by
            rw [key j hl (by rw [hf]; simp; exact fun e => he e.symm)]
            simp only [decide_eq_false_iff_not]
            intro hj
            rw [no_loud hst h0 hf (show j < f by omega)] at hl
            cases hl
          rw [top_is (i := f) hlf hLft _ hfn fun j h1 _ hl => hno j hl (by omega), hb, hDf]
          have hDi : (D i).H = (D 0).H := by
            rw [← D_top hst h0 i (by omega), top_none]
            intro j _ hl
            simp only [decide_eq_false_iff_not]
            intro hj
            rw [no_loud hst h0 hf (show j < f by omega)] at hl
            cases hl
          have hp : (D i).pre = none := by
            cases hp : (D i).pre with
            | none => rfl
            | some H0 =>
              obtain ⟨f', h1, h2, _⟩ := D_pre hst h0 i (by omega) H0 hp
              rw [hf] at h1
              obtain rfl := Option.some.inj h1
              omega
          rw [Ds.q_none hp, hDi] at e
          exact evOpQ_more _ e
end
theorem mem_afters_of {o : Oper} {e : Edge} (he : e ∈ o.after) (hb : Region.binds .any e = true) : e.on ∈ afters o := by
  unfold afters
  exact List.mem_filterMap.2 ⟨e, by simpa using he, by rw [if_pos hb]⟩
theorem draw_new (hM : P.follows .mixedOrders = true) (hG : ∀ w', Below B w0 w' → G w') (hK : CtxOk P C G) {call : Nat → List AV → List Blk → Option (AV × List Blk)} (hC : CallOk P C G B w0 call) {ops : Array Oper} {Q : Exit → Act → World → Prop} {tmps : List AV} {X : Nat → AV} {D : Nat → Ds} (hok : newOk C ops.toList = true)
    (h0 : D 0 = ⟨tmps, H, none⟩) (hst : Steps C P call ops 0 ops.toList X D)
    (hend : ∀ a S' pl' w', Ext B S H pl S' (D ops.size).H pl' → WRel G B w0 S' (D ops.size).H pl' w' → TRel S' (D ops.size).H pl' (D ops.size).tmps a → Q .normal a w') :
    ∀ (fuel : Nat) (listed : Array Bool) (S' : Sto) (pl' : Pl) (a : Act) (w : World), listed.size = ops.size → unl ops.size listed ≤ fuel → (∀ j o, ops[j]? = some o → lst listed j = true → ∀ k ∈ afters o, lst listed k = true) →
      Ext B S H pl S' (D (top (lou C ops.toList) (lst listed) ops.size)).H pl' → WRel G B w0 S' (D (top (lou C ops.toList) (lst listed) ops.size)).H pl' w → TRel S' (D (top (lou C ops.toList) (lst listed) ops.size)).H pl' (lay (lst listed) 0 ops.toList ((List.range ops.size).map X) tmps) a → wpAny P .any ops Q fuel listed a w := by
  have hops : ∀ (j : Nat), ops.toList[j]? = ops[j]? := fun j => by simp
  obtain ⟨xs, hxs⟩ : ∃ xs, (List.range ops.size).map X = xs := ⟨_, rfl⟩
  have hxl : xs.length = ops.toList.length := by rw [← hxs]; simp
  have hxi : ∀ i, i < ops.size → xs[i]? = some (X i) := fun i hi => by rw [← hxs]; simp [hi]
  have hDt := fun j hj => D_tmps hst h0 j hj
  rw [hxs] at hDt ⊢
  have hready : ∀ (listed : Array Bool), listed.size = ops.size → (Region.ready .any ops listed = [] → ∀ j, j < ops.size → lst listed j = true) := by
    intro listed hsz hr j
    induction j using Nat.strongRecOn with
    | _ j ih =>
      intro hj
      by_cases hl : lst listed j = true
      · exact hl
      · have hlf : lst listed j = false := by simpa using hl
        have ho : ops[j]? = some ops[j] := Array.getElem?_eq_getElem hj
        have hm : j ∈ Region.ready .any ops listed := by
          rw [mem_ready]
          refine ⟨?_, ops[j], ho, fun e he hb => ?_⟩
          · unfold lst at hlf
            simpa [Array.getD, hsz, hj] using hlf
          · have := (newOk_inv hok (i := j) (by rw [hops]; exact ho)).1 e.on (mem_afters_of he hb)
            exact ih e.on this (by omega)
        rw [hr] at hm
        cases hm
  have hnil : ∀ (listed : Array Bool), listed.size = ops.size → (∀ j, j < ops.size → lst listed j = true) → Region.ready .any ops listed = [] := by
    intro listed hsz hall
    rw [List.eq_nil_iff_forall_not_mem]
    intro j hj
    obtain ⟨h0, o, ho, _⟩ := mem_ready.1 hj
    have hlt : j < ops.size := (Array.getElem?_eq_some_iff.1 ho).1
    have := hall j hlt
    unfold lst at this
    simp [Array.getD, hsz, hlt] at this h0
    rw [this] at h0
    cases h0
  have hcongr : ∀ (listed : Array Bool) (i : Nat) (o : Oper), ops[i]? = some o → lst listed i = false → (∀ k ∈ afters o, lst listed k = true) → (∀ j o, ops[j]? = some o → lst listed j = true → ∀ k ∈ afters o, lst listed k = true) →
      ∀ t ∈ reads ops.toList o, (lay (lst listed) 0 ops.toList xs tmps)[t]? = (D i).tmps[t]? := by
    intro listed i o ho hli haft hcl t ht
    have hi : i < ops.size := (Array.getElem?_eq_some_iff.1 ho).1
    rw [hDt i (by omega)]
    refine lay_congr 0 ops.toList xs tmps tmps (fun j p hp hd => ?_) rfl rfl
    simp only [Nat.zero_add]
    rw [hops] at hp
    by_cases hij : i = j
    · subst hij; simp [hli]
    · have := ((newOk_inv hok (i := i) (by rw [hops]; exact ho)).2.1 j p t (by rw [hops]; exact hp) hd hij).2 ht
      by_cases hlt : j < i
      · rw [if_pos hlt] at this
        rw [haft j this]
        simp [hlt]
      · rw [if_neg hlt] at this
        rw [decide_eq_false hlt]
        cases hlj : lst listed j with
        | false => rfl
        | true =>
          have := hcl j p hp hlj i this
          rw [hli] at this
          cases this
  have hev : ∀ (listed : Array Bool) (i : Nat) (o : Oper), (∀ t ∈ reads ops.toList o, (lay (lst listed) 0 ops.toList xs tmps)[t]? = (D i).tmps[t]?) → ∀ y ∈ o.op.operands, evA (lay (lst listed) 0 ops.toList xs tmps) y = evA (D i).tmps y := by
    intro listed i o h y hy
    cases y with
    | tmp t =>
      have : t ∈ reads ops.toList o := by
        unfold reads opTmps
        refine List.mem_append.2 (.inl (List.mem_filterMap.2 ⟨.tmp t, by simpa using hy, rfl⟩))
      simp only [evA, List.getD, h t this]
    | _ => rfl
  have hwant : ∀ (listed : Array Bool) (i : Nat) (o : Oper), (∀ t ∈ reads ops.toList o, (lay (lst listed) 0 ops.toList xs tmps)[t]? = (D i).tmps[t]?) → wantA ops (lay (lst listed) 0 ops.toList xs tmps) o = wantA ops (D i).tmps o := by
    intro listed i o h
    unfold wantA
    cases hg : o.guard with
    | none => rfl
    | some jb =>
      obtain ⟨j, b⟩ := jb
      simp only
      cases hp : ops[j]? with
      | none => rfl
      | some p =>
        simp only [Option.bind_some]
        cases hd : p.dst with
        | none => rfl
        | some d =>
          have : d ∈ reads ops.toList o := by
            unfold reads
            refine List.mem_append.2 (.inr ?_)
            rw [hg]
            simp only [hops, hp, hd]
            simp
          simp only [List.getD, h d this]
  have hQ : ∀ (listed : Array Bool) (S' : Sto) (pl' : Pl) (a : Act) (w : World), (∀ j, j < ops.size → lst listed j = true) → Ext B S H pl S' (D (top (lou C ops.toList) (lst listed) ops.size)).H pl' → WRel G B w0 S' (D (top (lou C ops.toList) (lst listed) ops.size)).H pl' w → TRel S' (D (top (lou C ops.toList) (lst listed) ops.size)).H pl' (lay (lst listed) 0 ops.toList xs tmps) a → Q .normal a w := by
    intro listed S' pl' a w hall hE hW hT
    have h1 : top (lou C ops.toList) (lst listed) ops.size = top (lou C ops.toList) (fun i => decide (i < ops.size)) ops.size := top_congr _ fun j hj _ => by rw [hall j hj, decide_eq_true hj]
    have h2 : lay (lst listed) 0 ops.toList xs tmps = (D ops.size).tmps := by
      rw [hDt ops.size (Nat.le_refl _)]
      apply List.ext_getElem?
      intro t
      refine lay_congr 0 ops.toList xs tmps tmps (fun j p hp _ => ?_) rfl rfl
      rw [Nat.zero_add]
      have hj : j < ops.size := by simpa using (List.getElem?_eq_some_iff.1 hp).1
      rw [hall j hj, decide_eq_true hj]
    rw [h1] at hE hW hT
    rw [D_top hst h0 ops.size (Nat.le_refl _)] at hE hW hT
    rw [h2] at hT
    exact hend a S' pl' w hE hW hT
  intro fuel
  induction fuel with
  | zero =>
    intro listed S' pl' a w hsz hun hcl hE hW hT
    have hall : ∀ j, j < ops.size → lst listed j = true := by
      intro j hj
      have h0 : ((List.range ops.size).filter fun j => !lst listed j) = [] := List.eq_nil_of_length_eq_zero (by unfold unl at hun; omega)
      have := List.filter_eq_nil_iff.1 h0 j (List.mem_range.2 hj)
      simpa using this
    exact ⟨hnil listed hsz hall, hQ listed S' pl' a w hall hE hW hT⟩
  | succ fuel ih =>
    intro listed S' pl' a w hsz hun hcl hE hW hT
    refine ⟨fun hr => hQ listed S' pl' a w (hready listed hsz hr) hE hW hT, fun i hi => ?_⟩
    obtain ⟨h00, o, ho, haf⟩ := mem_ready.1 hi
    have hlt : i < ops.size := (Array.getElem?_eq_some_iff.1 ho).1
    have hli : lst listed i = false := by unfold lst; simpa [Array.getD, hsz, hlt] using h00
    have haft : ∀ k ∈ afters o, lst listed k = true := fun k hk => by
      obtain ⟨e, he, hb, rfl⟩ := mem_afters hk
      exact haf e he hb
    have hset := lst_set (listed := listed) (i := i) (by omega)
    have hot : ops.toList[i]? = some o := by rw [hops]; exact ho
    have hclt : ∀ j p, ops.toList[j]? = some p → lst listed j = true → ∀ k ∈ afters p, lst listed k = true := fun j p hp => hcl j p (by rw [← hops]; exact hp)
    have hc := hcongr listed i o ho hli haft hcl
    have hun' : unl ops.size (listed.setIfInBounds i true) ≤ fuel := by
      have := unl_lt (p := fun j => !lst listed j) (q := fun j => !lst (listed.setIfInBounds i true) j) (i := i) (by simp [hli]) (by simp [hset]) (fun j hj => by simp [hset] at hj; simp [hj.1]) (List.range ops.size) (List.mem_range.2 hlt)
      unfold unl at hun ⊢
      omega
    have hcl' : ∀ j p, ops[j]? = some p → lst (listed.setIfInBounds i true) j = true → ∀ k ∈ afters p, lst (listed.setIfInBounds i true) k = true := fun j p hp hj k hk => by
      rw [hset] at hj ⊢
      by_cases hji : j = i
      · subst hji
        rw [ho] at hp
        obtain rfl := Option.some.inj hp
        simp [haft k hk]
      · simp only [decide_eq_false hji, Bool.or_false] at hj
        simp [hcl j p hp hj k hk]
    have hlay : lay (lst (listed.setIfInBounds i true)) 0 ops.toList xs tmps = put (lay (lst listed) 0 ops.toList xs tmps) o.dst (X i) := by
      apply List.ext_getElem?
      intro t
      by_cases hd : o.dst = some t
      · by_cases htl : t < tmps.length
        · rw [lay_at 0 ops.toList xs tmps i o (X i) hot (hxi i hlt) hd (by rw [Nat.zero_add, hset]; simp) (fun j p hp hpd => ?_) htl, hd]
          · simp [put, lay_length, htl]
          · by_cases hij : i = j
            · exact hij.symm
            · exact absurd hd ((newOk_inv hok hot).2.1 j p t hp hpd hij).1
        · rw [List.getElem?_eq_none (by rw [lay_length]; omega), List.getElem?_eq_none (by rw [put_length, lay_length]; omega)]
      · rw [put_ne hd]
        refine lay_congr 0 ops.toList xs tmps tmps (fun j p hp hpd => ?_) rfl rfl
        rw [Nat.zero_add, hset]
        by_cases hji : j = i
        · subst hji
          rw [hot] at hp
          obtain rfl := Option.some.inj hp
          exact absurd hpd hd
        · simp [hji]
    have e := hst i o hot
    rw [Nat.zero_add] at e
    have hev' := hev listed i o hc
    unfold wpOp
    rw [ho]
    simp only
    cases hq : quietOp C [] o with
    | true =>
      have hlo : lou C ops.toList i = false := by rw [lou_of hot, hq]; rfl
      have htop : top (lou C ops.toList) (lst (listed.setIfInBounds i true)) ops.size = top (lou C ops.toList) (lst listed) ops.size := top_congr _ fun j _ hl => by
        rw [hset, decide_eq_false (fun he => by rw [he, hlo] at hl; cases hl), Bool.or_false]
      unfold stD at e
      split at e
      · rename_i hw
        simp only [hq] at e
        split at e
        · rename_i x hx
          simp only [Option.some.injEq, Prod.mk.injEq] at e
          obtain ⟨rfl, _⟩ := e
          have hx2 := quiet_at hst h0 hok hclt hot hli haft hq hx
          rw [← hwant listed i o hc] at hw
          rw [if_pos (wantA_sound hT hw)]
          refine .inl (evOpQ_sound hG hK hT hW (by rw [evOpQ_congr hev']; exact hx2) _ _ fun u S2 pl2 w2 hE2 hW2 hR => ?_)
          refine ih _ S2 pl2 _ w2 (by simpa using hsz) hun' hcl' ?_ ?_ ?_
          · rw [htop]; exact hE.trans hE2
          · rw [htop]; exact hW2
          · rw [htop, hlay]; exact (hT.mono hE2).put o.dst hR
        · cases e
      · rename_i hw
        simp only [Option.some.injEq, Prod.mk.injEq] at e
        obtain ⟨hX, _⟩ := e
        rw [← hwant listed i o hc] at hw
        rw [if_neg (by rw [wantA_sound hT hw]; decide)]
        refine ih _ S' pl' _ w (by simpa using hsz) hun' hcl' ?_ ?_ ?_
        · rw [htop]; exact hE
        · rw [htop]; exact hW
        · rw [htop, hlay, ← hX]; exact hT.put o.dst (.val _ _ (.v _))
      · cases e
    | false =>
      have hlo : lou C ops.toList i = true := by rw [lou_of hot, hq]; rfl
      have hL := loud_at hst h0 hok hclt hot hli haft hq
      have ht1 : top (lou C ops.toList) (lst listed) ops.size = top (lou C ops.toList) (fun j => decide (j < i)) ops.size := top_congr _ fun j _ hl => hL j hl
      have ht2 : top (lou C ops.toList) (lst (listed.setIfInBounds i true)) ops.size = i + 1 := top_is hlo (by rw [hset]; simp) _ hlt fun j h1 _ hl => by
        rw [hset, hL j hl, decide_eq_false (by omega), decide_eq_false (by omega)]; rfl
      rw [ht1] at hE hW hT
      rw [D_top hst h0 i (by omega)] at hE hW hT
      unfold stD at e
      split at e
      · rename_i hw
        simp only [hq] at e
        split at e
        · rename_i x H' hx
          simp only [Option.some.injEq, Prod.mk.injEq] at e
          obtain ⟨rfl, hD⟩ := e
          have hH : (D (i + 1)).H = H' := by rw [← hD]
          rw [← hwant listed i o hc] at hw
          rw [if_pos (wantA_sound hT hw)]
          refine .inl (evOp_sound hG hK hC hT hW (by rw [evOp_congr hev']; exact hx) _ _ fun u S2 pl2 w2 hE2 hW2 hR => ?_)
          refine ih _ S2 pl2 _ w2 (by simpa using hsz) hun' hcl' ?_ ?_ ?_
          · rw [ht2, hH]; exact hE.trans hE2
          · rw [ht2, hH]; exact hW2
          · rw [ht2, hH, hlay]; exact (hT.mono hE2).put o.dst hR
        · cases e
      · rename_i hw
        simp only [Option.some.injEq, Prod.mk.injEq] at e
        obtain ⟨hX, hD⟩ := e
        have hH : (D (i + 1)).H = (D i).H := by rw [← hD]
        rw [← hwant listed i o hc] at hw
        rw [if_neg (by rw [wantA_sound hT hw]; decide)]
        refine ih _ S' pl' _ w (by simpa using hsz) hun' hcl' ?_ ?_ ?_
        · rw [ht2, hH]; exact hE
        · rw [ht2, hH]; exact hW
        · rw [ht2, hH, hlay, ← hX]; exact hT.put o.dst (.val _ _ (.v _))
      · cases e

theorem evDraw_sound (hM : P.follows .mixedOrders = true) (hG : ∀ w', Below B w0 w' → G w') (hK : CtxOk P C G) {call : Nat → List AV → List Blk → Option (AV × List Blk)} (hC : CallOk P C G B w0 call) {id : Nat} {ops : Array Oper} {Q : Exit → Act → World → Prop} {s s' : St} {a : Act}
    (e : evDraw C P call ops s = some s') (ht : TRel S s.H pl s.tmps a) (h : WRel G B w0 S s.H pl w) (k : Post P G B w0 S s.H pl s' (Q .normal)) : (Code.region id ops true).wp P Q a w := by
  unfold evDraw at e
  split at e
  · rename_i hold
    exact evDrawOld_sound hM hG hK hC hold e ht h k
  · split at e
    · rename_i hok
      split at e
      · rename_i d hd
        obtain rfl := Option.some.inj e
        obtain ⟨X, D, h0, h1, hst⟩ := evD_inv _ _ _ _ hd
        have h1 : D ops.size = d := by simpa using h1
        refine wp_region_any hM ?_
        have hun : unl ops.size (Array.replicate ops.size false) ≤ ops.size := by
          unfold unl
          exact Nat.le_trans (List.length_filter_le _ _) (by simp)
        have hlf : lst (Array.replicate ops.size false) = fun _ => false := by
          funext j
          unfold lst
          by_cases hj : j < ops.size <;> simp [hj]
        have htop : top (lou C ops.toList) (lst (Array.replicate ops.size false)) ops.size = 0 := top_none _ fun j _ _ => by rw [hlf]
        refine draw_new hM hG hK hC (S := S) (H := s.H) (pl := pl) (tmps := s.tmps) hok h0 hst (fun a S2 pl2 w2 hE hW hT => ?_) _ _ S pl a _ (by simp) hun (fun j o _ hj => by rw [hlf] at hj; cases hj) ?_ ?_ ?_
        · rw [h1] at hE hW hT
          exact k a S2 pl2 w2 hE hW hT
        · rw [htop, h0]; exact Ext.refl _ _ _
        · rw [htop, h0]; exact drew_W h hG
        · rw [htop, h0, hlf, lay_none]; exact ht
      · cases e
    · cases e
end
end Go.Proofs.YtkifbcjmmkbilaaDoor.Av
