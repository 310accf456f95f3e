/- Rows of operations whose order is drawn, and that write: the text's order answers all the same, where those that must wait do. -/
import Derived.Test.YtkifbcjmmkbilaaAvV
set_option linter.unusedVariables false
set_option linter.unusedSimpArgs false
set_option linter.unusedSectionVars false
namespace Go.Proofs.Ytkifbcjmmkbilaa.Av
open Go Go.RowKit
variable {P : Program}
section
variable {S : Sto} {H : List Blk} {pl : Pl} {A : Nat → Prop} {ds : List Deferred} {G : World → Prop} {B : Nat} {w0 w : World} {rd : Option Nat} {dp : Nat} {C : Ctx}

theorem evOpE_congr {call : Nat → List AV → List Blk → Option (AV × List Blk)} {t1 t2 : List AV} {o : Oper} (h : ∀ x ∈ o.op.operands, evA t1 x = evA t2 x) : evOpE C call t1 H o = evOpE C call t2 H o := by
  cases ho : o.op with
  | assign x =>
    unfold evOpE
    rw [ho]
    cases x with
    | const v => cases v with
      | slice a n c => cases a with
        | none => cases n with
          | zero => cases c <;> rfl
          | succ n => rfl
        | some a => rfl
      | _ => rfl
    | _ => rfl
  | slice t x lo hi mx =>
    have hx := h x (by simp [ho, Op.operands])
    have h1 := omap_congr (t1 := t1) (t2 := t2) (x := lo) (fun y hy => h y (by cases lo <;> simp_all [ho, Op.operands]))
    have h2 := omap_congr (t1 := t1) (t2 := t2) (x := hi) (fun y hy => h y (by cases hi <;> simp_all [ho, Op.operands]))
    have h3 := omap_congr (t1 := t1) (t2 := t2) (x := mx) (fun y hy => h y (by cases mx <;> simp_all [ho, Op.operands]))
    simp only [evOpE, ho, hx, h1, h2, h3]
  | convert s d x => have hx := h x (by simp [ho, Op.operands]); simp only [evOpE, ho, hx]
  | alloc t => simp only [evOpE, ho]
  | box t x => have hx := h x (by simp [ho, Op.operands]); simp only [evOpE, ho, hx]
  | store t x y =>
    have hx := h x (by simp [ho, Op.operands])
    have hy := h y (by simp [ho, Op.operands])
    simp only [evOpE, ho, hx, hy]
  | buildSlice t n parts =>
    have hp : (parts.toList.map fun p => (p.1, evA t1 p.2)) = (parts.toList.map fun p => (p.1, evA t2 p.2)) := by
      apply List.map_congr_left
      intro p hp
      rw [h p.2 (by simp only [ho, Op.operands, List.mem_toArray]; exact List.mem_map.2 ⟨p, hp, rfl⟩)]
    simp only [evOpE, ho, hp]
  | call c =>
    have ha := map_congr' (t1 := t1) (t2 := t2) (xs := c.args.toList) (fun x hx => h x (by simp at hx; simp [ho, Op.operands, Call.operands, hx]))
    cases hc : c.callee with
    | value f =>
      have hf := h f (by simp [ho, Op.operands, Call.operands, hc])
      simp only [evOpE, ho, hc, hf, ha]
    | invoke r m => simp only [evOpE, ho, hc]
    | builtin b =>
      cases b <;> simp only [evOpE, ho, hc]
      split
      · rename_i s x t t' hxs hts
        have hs := h s (by
          have : s ∈ c.args.toList := by rw [hxs]; simp
          simp at this
          simp [ho, Op.operands, Call.operands, this])
        have hx := h x (by
          have : x ∈ c.args.toList := by rw [hxs]; simp
          simp at this
          simp [ho, Op.operands, Call.operands, this])
        simp only [hs, hx]
      · rfl
  | _ => simp only [evOpE, ho]
theorem evOp_congr {call : Nat → List AV → List Blk → Option (AV × List Blk)} {t1 t2 : List AV} {o : Oper} (h : ∀ x ∈ o.op.operands, evA t1 x = evA t2 x) : evOp C P call t1 H o = evOp C P call t2 H o := by
  unfold evOp
  rw [evOpE_congr h, evOpQ_congr h]
/-- What looks at no memory. -/
theorem pureQ_eq {H1 H2 : List Blk} {tmps : List AV} {o : Oper} (h : memQ o = false) : evOpQ C P tmps H1 o = evOpQ C P tmps H2 o := by
  unfold memQ at h
  cases ho : o.op with
  | binOp b t x y t' =>
    unfold evOpQ
    rw [ho]
    cases b <;> rfl
  | makeFunc fn first caps =>
    unfold evOpQ
    rw [ho]
    cases fn <;> rfl
  | _ => rw [ho] at h; first | (cases h; done) | (simp only [evOpQ, ho]; done) | (simp only [evOpQ, ho]; rfl)

theorem clo_sub {ops : List Oper} (L : Nat → Bool) (hcl : ∀ j p, ops[j]? = some p → L j = true → ∀ k ∈ afters p, L k = true) : ∀ (n : Nat) (R : List Nat), (∀ k ∈ R, L k = true) → ∀ k ∈ clo ops n R, L k = true
  | 0, R, hR, k, hk => hR k hk
  | n + 1, R, hR, k, hk => by
    rw [clo] at hk
    refine clo_sub L hcl n _ ?_ k hk
    intro q hq
    split at hq
    · rename_i hn
      have hLn : L n = true := hR n (by simpa using hn)
      split at hq
      · rename_i p hp
        rcases List.mem_append.1 hq with hq | hq
        · exact hcl n p hp hLn q hq
        · exact hR q hq
      · exact hR q hq
    · exact hR q hq

theorem newOk_inv {ops : List Oper} (h : newOk C ops = true) {i : Nat} {o : Oper} (ho : ops[i]? = some o) :
    (∀ k ∈ afters o, k < i) ∧ (∀ (j : Nat) p t, ops[j]? = some p → p.dst = some t → i ≠ j → o.dst ≠ some t ∧ (t ∈ reads ops o → if j < i then j ∈ afters o else i ∈ afters p)) ∧
    ∀ (j : Nat) p, ops[j]? = some p → j < i → mustWait C (floatAt C ops) o i p j = true → j ∈ clo ops i (afters o) ∨ (match quietOp C [] o with | true => ldQ ops o | false => quietOp C [] p && ldQ ops p) = true := by
  have hm : (o, i) ∈ ops.zipIdx := by
    rw [List.mem_zipIdx_iff_getElem?]
    exact ho
  have := List.all_eq_true.1 h _ hm
  simp only [Bool.and_eq_true, List.all_eq_true] at this
  obtain ⟨⟨⟨h1, _⟩, h2⟩, h4⟩ := this
  refine ⟨fun k hk => by simpa using h1 k hk, fun j p t hp hd hij => ?_, fun j p hp hj hm => ?_⟩
  · have hm' : (p, j) ∈ ops.zipIdx := by
      rw [List.mem_zipIdx_iff_getElem?]
      exact hp
    have h3 := h2 _ hm'
    simp only [hd, Bool.or_eq_true, Bool.and_eq_true, Bool.not_eq_true', beq_iff_eq, beq_eq_false_iff_ne] at h3
    rcases h3 with h3 | ⟨h3, h4⟩
    · exact absurd h3 hij
    · refine ⟨h3, fun ht => ?_⟩
      rcases h4 with h4 | h4
      · rw [List.contains_eq_mem] at h4
        simp [ht] at h4
      · split at h4
        · rename_i hlt; rw [if_pos hlt]; simpa using h4
        · rename_i hlt; rw [if_neg hlt]; simpa using h4
  · have hm' : (p, j) ∈ ops.zipIdx := by
      rw [List.mem_zipIdx_iff_getElem?]
      exact hp
    have h5 := h4 _ hm'
    simp only [Bool.or_eq_true, hm, Bool.not_true, decide_eq_true hj, Bool.false_eq_true, or_false, false_or] at h5
    rcases h5 with h5 | h5
    · exact .inl (by simpa using h5)
    · exact .inr h5
theorem newOk_loud {ops : List Oper} (h : newOk C ops = true) {i : Nat} {o : Oper} (ho : ops[i]? = some o) {j : Nat} {p : Oper} (hp : ops[j]? = some p) (hj : j < i) (hq : quietOp C [] o = false) (hqp : quietOp C [] p = false) : j ∈ clo ops i (afters o) := by
  rcases (newOk_inv h ho).2.2 j p hp hj (by simp [mustWait, hq, hqp]) with h | h
  · exact h
  · rw [hq, hqp] at h
    cases h
theorem needs_inv {ops : List Oper} {i : Nat} {o : Oper} (hn : needs C ops i o = false) {j : Nat} {p : Oper} (hp : ops[j]? = some p) : (j < i → mustWait C (floatAt C ops) o i p j = true → j ∈ clo ops i (afters o)) ∧ (i < j → mustWait C (floatAt C ops) p j o i = true → i ∈ clo ops j (afters p)) := by
  have hm' : (p, j) ∈ ops.zipIdx := by
    rw [List.mem_zipIdx_iff_getElem?]
    exact hp
  unfold needs at hn
  have := List.any_eq_false.1 hn _ hm'
  simp only [Bool.not_eq_true, Bool.or_eq_false_iff] at this
  refine ⟨fun hj hm => ?_, fun hj hm => ?_⟩
  · have h1 := this.1
    rw [decide_eq_true hj, hm] at h1
    simpa using h1
  · have h1 := this.2
    rw [decide_eq_true hj, hm] at h1
    simpa using h1
theorem needs_ld {ops : List Oper} (h : newOk C ops = true) {i : Nat} {o : Oper} (ho : ops[i]? = some o) (hq : quietOp C [] o = true) (hn : needs C ops i o = true) : ldQ ops o = true := by
  unfold needs at hn
  obtain ⟨⟨p, j⟩, hm, hc⟩ := List.any_eq_true.1 hn
  rw [List.mem_zipIdx_iff_getElem?] at hm
  simp only [Bool.or_eq_true, Bool.and_eq_true, decide_eq_true_eq, Bool.not_eq_true'] at hc
  rcases hc with ⟨hj, hmw, hno⟩ | ⟨hj, hmw, hno⟩
  · rcases (newOk_inv h ho).2.2 j p hm hj hmw with h1 | h1
    · rw [List.contains_eq_mem] at hno
      simp [h1] at hno
    · rw [hq] at h1
      exact h1
  · rcases (newOk_inv h hm).2.2 i o ho hj hmw with h1 | h1
    · rw [List.contains_eq_mem] at hno
      simp [h1] at hno
    · cases hqp : quietOp C [] p with
      | true =>
        simp [mustWait, hqp, hq] at hmw
      | false =>
        rw [hqp] at h1
        simp only [Bool.and_eq_true] at h1
        exact h1.2

/-- The steps of the text's order. -/
def Steps (C : Ctx) (P : Program) (call : Nat → List AV → List Blk → Option (AV × List Blk)) (ops : Array Oper) (k0 : Nat) (l : List Oper) (X : Nat → AV) (D : Nat → Ds) : Prop :=
  ∀ (j : Nat) o, l[j]? = some o → stD C P call ops (floatAt C ops.toList) (waitsF C ops.toList (k0 + j) o) (k0 + j) o (D j) = some (X j, D (j + 1)) ∧ okF C ops (k0 + j) o (D j).tmps = true
theorem evD_inv {call : Nat → List AV → List Blk → Option (AV × List Blk)} {ops : Array Oper} {ck : List Blk → Bool} : ∀ (l : List Oper) (k : Nat) (d d' : Ds), evD C P call ops ck k l d = some d' → ∃ (X : Nat → AV) (D : Nat → Ds), D 0 = d ∧ D l.length = d' ∧ Steps C P call ops k l X D ∧ ∀ j, j < l.length → ck (D (j + 1)).H = true
  | [], k, d, d', e => by
    simp only [evD, Option.some.injEq] at e
    subst e
    exact ⟨fun _ => .any, fun _ => d, rfl, rfl, fun j o h => by simp at h, fun j hj => by simp at hj⟩
  | o :: l, k, d, d', e => by
    simp only [evD] at e
    split at e
    · rename_i x d1 hs
      split at e
      · rename_i hc
        rw [Bool.and_eq_true] at hc
        obtain ⟨X, D, h0, h1, h2, h3⟩ := evD_inv l (k + 1) d1 d' e
        refine ⟨fun j => match j with | 0 => x | j + 1 => X j, fun j => match j with | 0 => d | j + 1 => D j, rfl, by simpa using h1, fun j p hp => ?_, fun j hj => ?_⟩
        · cases j with
          | zero =>
            simp at hp
            subst hp
            exact ⟨by simpa [h0] using hs, hc.2⟩
          | succ j =>
            have := h2 j p (by simpa using hp)
            simpa [Nat.add_assoc, Nat.add_comm 1 j] using this
        · cases j with
          | zero => simpa [h0] using hc.1
          | succ j => exact h3 j (by simpa using hj)
      · cases e
    · cases e

/-- The last loud one that is listed, and one more. -/
def top (lo L : Nat → Bool) : Nat → Nat
  | 0 => 0
  | i + 1 => if lo i && L i then i + 1 else top lo L i
theorem top_congr {lo L1 L2 : Nat → Bool} : ∀ n, (∀ j, j < n → lo j = true → L1 j = L2 j) → top lo L1 n = top lo L2 n
  | 0, _ => rfl
  | n + 1, h => by
    have ih := top_congr n fun j hj => h j (by omega)
    rw [top, top, ih]
    cases hl : lo n with
    | false => rfl
    | true => rw [h n (by omega) hl]
theorem top_le {lo L : Nat → Bool} : ∀ n, top lo L n ≤ n
  | 0 => Nat.le_refl _
  | n + 1 => by
    rw [top]
    split
    · exact Nat.le_refl _
    · have := top_le (lo := lo) (L := L) n; omega
theorem top_none {lo L : Nat → Bool} : ∀ n, (∀ j, j < n → lo j = true → L j = false) → top lo L n = 0
  | 0, _ => rfl
  | n + 1, h => by
    rw [top, top_none n fun j hj => h j (by omega)]
    cases hl : lo n with
    | false => rfl
    | true => rw [h n (by omega) hl]; rfl
theorem top_is {lo L : Nat → Bool} {i : Nat} (hi : lo i = true) (hL : L i = true) : ∀ n, i < n → (∀ j, i < j → j < n → lo j = true → L j = false) → top lo L n = i + 1
  | n + 1, h, hj => by
    rw [top]
    by_cases he : n = i
    · subst he; rw [hi, hL]; rfl
    · have ih := top_is hi hL n (by omega) fun j h1 h2 => hj j h1 (by omega)
      rw [ih]
      cases hl : lo n with
      | false => rfl
      | true => rw [hj n (by omega) (by omega) hl]; rfl

theorem Ds.q_none {d : Ds} {w : Bool} (h : d.pre = none) : d.q w = d.H := by unfold Ds.q; rw [h]
theorem lay_none : ∀ (k : Nat) (os : List Oper) (xs tmps : List AV), lay (fun _ => false) k os xs tmps = tmps
  | k, [], xs, tmps => rfl
  | k, o :: os, [], tmps => rfl
  | k, o :: os, x :: xs, tmps => by rw [lay]; simp [lay_none (k + 1) os xs tmps]
theorem lay_lt : ∀ (os : List Oper) (xs tmps : List AV) (j : Nat), xs.length = os.length → lay (fun q => decide (q < j)) 0 os xs tmps = lay (fun _ => true) 0 (os.take j) (xs.take j) tmps
  | [], xs, tmps, j, h => by simp [lay]
  | o :: os, [], tmps, j, h => by cases h
  | o :: os, x :: xs, tmps, 0, h => by
    have : (fun q : Nat => decide (q < 0)) = fun _ => false := by funext q; simp
    rw [this, lay_none]
    rfl
  | o :: os, x :: xs, tmps, j + 1, h => by
    rw [List.take_succ_cons, List.take_succ_cons, lay, lay, lay_shift, lay_shift]
    have : (fun q => decide (q + 1 < j + 1)) = fun q => decide (q < j) := by funext q; simp
    rw [this, lay_lt os xs _ j (by simpa using h)]
    simp
theorem lay_snoc : ∀ (os : List Oper) (xs tmps : List AV) (o : Oper) (x : AV), xs.length = os.length → lay (fun _ => true) 0 (os ++ [o]) (xs ++ [x]) tmps = put (lay (fun _ => true) 0 os xs tmps) o.dst x
  | [], [], tmps, o, x, _ => rfl
  | [], y :: xs, tmps, o, x, h => by cases h
  | q :: os, [], tmps, o, x, h => by cases h
  | q :: os, y :: xs, tmps, o, x, h => by
    rw [List.cons_append, List.cons_append, lay, lay, lay_shift, lay_shift]
    exact lay_snoc os xs _ o x (by simpa using h)
theorem cutAt_quiet : ∀ (l : List Oper) (j : Nat) o, l[j]? = some o → j < cutAt C l → quietOp C [] o = true
  | [], j, o, h, _ => by simp at h
  | p :: l, j, o, h, hj => by
    unfold cutAt at hj
    split at hj
    · rename_i hq
      cases j with
      | zero => simp at h; subst h; exact hq
      | succ j => exact cutAt_quiet l j o (by simpa using h) (by omega)
    · omega
theorem cutAt_loud : ∀ (l : List Oper) o, l[cutAt C l]? = some o → quietOp C [] o = false
  | [], o, h => by simp at h
  | p :: l, o, h => by
    unfold cutAt at h
    split at h
    · exact cutAt_loud l o (by simpa using h)
    · rename_i hq
      simp at h
      subst h
      exact hq
def FlOp (o : Oper) : Prop := (∃ t, o.op = .alloc t) ∨ ∃ t n ps, o.op = .buildSlice t n ps
theorem floatAt_some {ops : List Oper} {f : Nat} (h : floatAt C ops = some f) : f = cutAt C ops ∧ ∃ (o : Oper) (t : Nat), ops[f]? = some o ∧ FlOp o ∧ o.guard = none := by
  unfold floatAt at h
  split at h
  · rename_i g hg
    obtain rfl := Option.some.inj h
    unfold floatA at hg
    split at hg
    · rename_i o ho
      split at hg
      · rename_i t hop hgu
        obtain rfl := Option.some.inj hg
        exact ⟨rfl, o, 0, ho, .inl ⟨t, hop⟩, hgu⟩
      · cases hg
    · cases hg
  · split at h
    · cases h
    · unfold floatB at h
      split at h
      · rename_i o ho
        split at h
        · rename_i t n ps hop hgu
          obtain rfl := Option.some.inj h
          exact ⟨rfl, o, 0, ho, .inr ⟨t, n, ps, hop⟩, hgu⟩
        · cases h
      · cases h
theorem frzs_same : ∀ (cs : List AV) (H : List Blk), (∀ c ∈ cs, notOwn c = true) → (frzs cs H).2 = H
  | [], H, _ => rfl
  | x :: r, H, h => by
    have hx : (frz H x).2 = H := by
      have := h x List.mem_cons_self
      cases x with
      | own id ver => cases this
      | _ => rfl
    rw [frzs]
    show (frzs r (frz H x).2).2 = H
    rw [hx]
    exact frzs_same r H fun c hc => h c (List.mem_cons_of_mem _ hc)
theorem zfix_own (zs xs : List AV) (h : ∀ c ∈ xs, notOwn c = true) : ∀ c ∈ zfix zs xs, notOwn c = true := fun c hc => by
  obtain ⟨j, hj⟩ := List.mem_iff_getElem?.1 hc
  obtain ⟨x, hx, rfl | ⟨_, k, rfl⟩⟩ := zfix_get zs xs j c hj
  · exact h _ (List.mem_of_getElem? hx)
  · rfl
theorem afill_own {place : Nat → Option (Nat × Nat)} : ∀ (ps : List (Nat × AV)) (cs cs' : List AV), (∀ c ∈ cs, notOwn c = true) → (∀ p ∈ ps, ∀ c ∈ p.2.cells, notOwn c = true) → afill place cs ps = some cs' → ∀ c ∈ cs', notOwn c = true
  | [], cs, cs', h, _, e => by
    simp only [afill, Option.some.injEq] at e
    subst e
    exact h
  | (i, x) :: r, cs, cs', h, hp, e => by
    simp only [afill] at e
    split at e
    · cases e
    · split at e
      · refine afill_own r _ cs' (fun c hc => ?_) (fun p hpm => hp p (List.mem_cons_of_mem _ hpm)) e
        unfold splice at hc
        rcases List.mem_append.1 hc with hc | hc
        · rcases List.mem_append.1 hc with hc | hc
          · exact h c (List.mem_of_mem_take hc)
          · exact zfix_own _ _ (hp (i, x) List.mem_cons_self) c hc
        · exact h c (List.mem_of_mem_drop hc)
      · cases e
theorem zAV_own : ∀ (ks : List Nat) (us : List Value), ∀ c ∈ zAV ks us, notOwn c = true
  | ks, [] => fun c hc => by cases ks <;> cases hc
  | [], u :: us => fun c hc => by
    simp only [zAV] at hc
    rcases List.mem_cons.1 hc with rfl | hc
    · rfl
    · exact zAV_own [] us c hc
  | k :: ks, u :: us => fun c hc => by
    simp only [zAV] at hc
    rcases List.mem_cons.1 hc with rfl | hc
    · split <;> rfl
    · exact zAV_own ks us c hc
def lou (C : Ctx) (ops : List Oper) (j : Nat) : Bool := match ops[j]? with
  | some p => !quietOp C [] p
  | none => false
theorem lou_of {ops : List Oper} {j : Nat} {p : Oper} (h : ops[j]? = some p) : lou C ops j = !quietOp C [] p := by unfold lou; rw [h]

section
variable {call : Nat → List AV → List Blk → Option (AV × List Blk)} {ops : Array Oper} {X : Nat → AV} {D : Nat → Ds} {tmps : List AV}
theorem st_tmps {f : Option Nat} {w : Bool} {k : Nat} {o : Oper} {d d' : Ds} {x : AV} (e : stD C P call ops f w k o d = some (x, d')) : d'.tmps = put d.tmps o.dst x := by
  unfold stD at e
  split at e
  · split at e
    · split at e
      · simp only [Option.some.injEq, Prod.mk.injEq] at e; obtain ⟨rfl, rfl⟩ := e; rfl
      · cases e
    · split at e
      · simp only [Option.some.injEq, Prod.mk.injEq] at e; obtain ⟨rfl, rfl⟩ := e; rfl
      · cases e
  · simp only [Option.some.injEq, Prod.mk.injEq] at e; obtain ⟨rfl, rfl⟩ := e; rfl
  · cases e
theorem st_quiet {f : Option Nat} {w : Bool} {k : Nat} {o : Oper} {d d' : Ds} {x : AV} (hq : quietOp C [] o = true) (e : stD C P call ops f w k o d = some (x, d')) : d'.H = d.H ∧ d'.pre = d.pre := by
  unfold stD at e
  simp only [hq, if_true] at e
  split at e
  · split at e
    · simp only [Option.some.injEq, Prod.mk.injEq] at e; obtain ⟨rfl, rfl⟩ := e; exact ⟨rfl, rfl⟩
    · cases e
  · simp only [Option.some.injEq, Prod.mk.injEq] at e; obtain ⟨rfl, rfl⟩ := e; exact ⟨rfl, rfl⟩
  · cases e
theorem st_float {f k : Nat} {w : Bool} {o : Oper} {d d' : Ds} {x : AV} (hq : quietOp C [] o = false) (hop : FlOp o) (hg : o.guard = none) (hfl : flOk d.tmps o = true) (e : stD C P call ops (some f) w f o d = some (x, d')) : (∃ b, d'.H = d.H ++ b) ∧ d'.pre = some d.H := by
  unfold stD at e
  have hw : wantA ops d.tmps o = some true := by simp only [wantA, hg]
  simp only [hw, hq] at e
  split at e
  · rename_i y H' ho
    simp only [Option.some.injEq, Prod.mk.injEq, beq_self_eq_true, if_true] at e
    obtain ⟨rfl, rfl⟩ := e
    refine ⟨?_, rfl⟩
    rcases hop with ⟨t, hop⟩ | ⟨t, n, ps, hop⟩
    · unfold evOp at ho
      simp only [evOpE, hop] at ho
      split at ho
      · rename_i r hr
        split at hr
        · obtain rfl := Option.some.inj hr
          simp only [Option.some.injEq, Prod.mk.injEq] at ho
          exact ⟨_, ho.2.symm⟩
        · split at hr
          · obtain rfl := Option.some.inj hr
            simp only [Option.some.injEq, Prod.mk.injEq] at ho
            exact ⟨_, ho.2.symm⟩
          · cases hr
      · simp only [evOpQ, hop] at ho
        cases ho
    · unfold flOk at hfl
      rw [hop] at hfl
      simp only [List.all_eq_true] at hfl
      unfold evOp at ho
      simp only [evOpE, hop] at ho
      split at ho
      · rename_i r hr
        obtain rfl := Option.some.inj ho
        split at hr
        · split at hr
          · rename_i zs hz
            split at hr
            · split at hr
              · rename_i cs hcs
                simp only [Option.some.injEq, Prod.mk.injEq] at hr
                have hown := afill_own _ _ _ (fun c hc => by
                  obtain ⟨l, hl, hcl⟩ := List.mem_flatten.1 hc
                  rw [List.mem_replicate] at hl
                  rw [hl.2] at hcl
                  exact zAV_own _ _ c hcl) (fun p hp => by
                  obtain ⟨q, hq', rfl⟩ := List.mem_map.1 hp
                  exact hfl q hq') hcs
                rw [frzs_same _ _ hown] at hr
                exact ⟨_, hr.2.symm⟩
              · cases hr
            · split at hr
              · simp only [Option.some.injEq, Prod.mk.injEq] at hr
                exact ⟨_, hr.2.symm⟩
              · cases hr
          · cases hr
        · cases hr
      · simp only [evOpQ, hop] at ho
        cases ho
  · cases e
theorem st_floatP {f : Nat} {w : Bool} {o : Oper} {d d' : Ds} {x : AV} (hq : quietOp C [] o = false) (hg : o.guard = none) (e : stD C P call ops (some f) w f o d = some (x, d')) : d'.pre = some d.H := by
  unfold stD at e
  have hw : wantA ops d.tmps o = some true := by simp only [wantA, hg]
  simp only [hw, hq] at e
  split at e
  · simp only [Option.some.injEq, Prod.mk.injEq, beq_self_eq_true, if_true] at e
    obtain ⟨rfl, rfl⟩ := e
    rfl
  · cases e
theorem st_loud {f : Option Nat} {w : Bool} {k : Nat} {o : Oper} {d d' : Ds} {x : AV} (hq : quietOp C [] o = false) (hf : f ≠ some k) (e : stD C P call ops f w k o d = some (x, d')) : d'.pre = none := by
  have hf' : (f == some k) = false := by
    cases f with
    | none => rfl
    | some g => simp at hf; simpa using hf
  unfold stD at e
  simp only [hq, hf'] at e
  split at e
  · split at e
    · simp only [Option.some.injEq, Prod.mk.injEq] at e; obtain ⟨rfl, rfl⟩ := e; rfl
    · cases e
  · simp only [Option.some.injEq, Prod.mk.injEq] at e; obtain ⟨rfl, rfl⟩ := e; rfl
  · cases e

variable (hst : Steps C P call ops 0 ops.toList X D) (h0 : D 0 = ⟨tmps, H, none⟩)
include hst h0
theorem D_tmps : ∀ j, j ≤ ops.size → (D j).tmps = lay (fun q => decide (q < j)) 0 ops.toList ((List.range ops.size).map X) tmps
  | 0, _ => by
    have : (fun q : Nat => decide (q < 0)) = fun _ => false := by funext q; simp
    rw [this, lay_none, h0]
  | j + 1, h => by
    have hj : ops.toList[j]? = some ops[j] := by simp [h]
    have e := (hst j _ hj).1
    rw [st_tmps e, D_tmps j (by omega), lay_lt _ _ _ j (by simp), lay_lt _ _ _ (j + 1) (by simp)]
    have h1 : ops.toList.take (j + 1) = ops.toList.take j ++ [ops[j]] := by
      rw [List.take_succ_eq_append_getElem (by simp; omega)]
      simp
    have h2 : ((List.range ops.size).map X).take (j + 1) = ((List.range ops.size).map X).take j ++ [X j] := by
      rw [List.take_succ_eq_append_getElem (by simp; omega)]
      simp
    rw [h1, h2, lay_snoc _ _ _ _ _ (by simp)]
theorem D_top : ∀ j, j ≤ ops.size → (D (top (lou C ops.toList) (fun i => decide (i < j)) ops.size)).H = (D j).H
  | 0, _ => by rw [top_none _ fun i _ _ => by simp]
  | j + 1, h => by
    have hj : ops.toList[j]? = some ops[j] := by simp [h]
    cases hl : lou C ops.toList j with
    | true => rw [top_is (i := j) hl (by simp) _ (by omega) fun i h1 _ _ => by simp; omega]
    | false =>
      rw [lou_of hj] at hl
      have hq : quietOp C [] ops[j] = true := by simpa using hl
      rw [(st_quiet hq (hst j _ hj).1).1, ← D_top j (by omega)]
      rw [top_congr (L2 := fun i => decide (i < j)) _ fun i hi hli => ?_]
      by_cases he : i = j
      · subst he; rw [lou_of hj, hq] at hli; cases hli
      · simp only [decide_eq_decide]; omega
theorem D_pre : ∀ j, j ≤ ops.size → ∀ H0, (D j).pre = some H0 → ∃ f, floatAt C ops.toList = some f ∧ f < j ∧ H0 = (D f).H ∧ ∀ i, f < i → i < j → lou C ops.toList i = false
  | 0, _, H0, h => by rw [h0] at h; cases h
  | j + 1, hj, H0, h => by
    have ho : ops.toList[j]? = some ops[j] := by simp [hj]
    have e := (hst j _ ho).1
    cases hq : quietOp C [] ops[j] with
    | true =>
      rw [(st_quiet hq e).2] at h
      obtain ⟨f, h1, h2, h3, h4⟩ := D_pre j (by omega) H0 h
      refine ⟨f, h1, by omega, h3, fun i hi1 hi2 => ?_⟩
      by_cases he : i = j
      · subst he; rw [lou_of ho, hq]; rfl
      · exact h4 i hi1 (by omega)
    | false =>
      by_cases hf : floatAt C ops.toList = some (0 + j)
      · obtain ⟨_, o', t, ho', hop, hg⟩ := floatAt_some hf
        rw [Nat.zero_add] at ho'
        rw [ho] at ho'
        obtain rfl := Option.some.inj ho'
        rw [hf] at e
        have := (st_floatP hq hg (by simpa using e))
        rw [h] at this
        exact ⟨j, by simpa using hf, by omega, Option.some.inj this, fun i h1 h2 => by omega⟩
      · rw [st_loud hq hf e] at h
        cases h
theorem D_pre' {f : Nat} (hf : floatAt C ops.toList = some f) : ∀ j, j ≤ ops.size → f < j → (∀ i, f < i → i < j → lou C ops.toList i = false) → (D j).pre = some (D f).H
  | 0, _, h, _ => by omega
  | j + 1, hj, hfj, hno => by
    have ho : ops.toList[j]? = some ops[j] := by simp [hj]
    have e := (hst j _ ho).1
    by_cases he : f = j
    · subst he
      obtain ⟨hc, o', t, ho', hop, hg⟩ := floatAt_some hf
      rw [ho] at ho'
      obtain rfl := Option.some.inj ho'
      have hq : quietOp C [] ops[f] = false := cutAt_loud _ _ (by rw [← hc]; exact ho)
      rw [hf] at e
      exact (st_floatP hq hg (by simpa using e))
    · have hq : quietOp C [] ops[j] = true := by
        have := hno j (by omega) (by omega)
        rw [lou_of ho] at this
        simpa using this
      rw [(st_quiet hq e).2]
      exact D_pre' hf j (by omega) (by omega) fun i h1 h2 => hno i h1 (by omega)
theorem D_float {f : Nat} (hf : floatAt C ops.toList = some f) : ∃ b, (D (f + 1)).H = (D f).H ++ b := by
  obtain ⟨hc, o', t, ho', hop, hg⟩ := floatAt_some hf
  obtain ⟨e, hfo⟩ := hst f _ ho'
  rw [Nat.zero_add] at hfo
  have hfl : flOk (D f).tmps o' = true := by
    unfold okF at hfo
    rw [hf] at hfo
    simpa using hfo
  have hq : quietOp C [] o' = false := cutAt_loud _ _ (by rw [← hc]; exact ho')
  rw [hf] at e
  exact (st_float (k := 0) hq hop hg hfl (by simpa using e)).1
theorem no_loud {f j : Nat} (hf : floatAt C ops.toList = some f) (hj : j < f) : lou C ops.toList j = false := by
  obtain ⟨hc, o', t, ho', _⟩ := floatAt_some hf
  have : j < ops.toList.length := by have := (List.getElem?_eq_some_iff.1 ho').1; omega
  rw [lou_of (List.getElem?_eq_getElem this), cutAt_quiet _ _ _ (List.getElem?_eq_getElem this) (by rw [← hc]; exact hj)]
  rfl

/-- A loud one finds the memory of the text's order. -/
theorem loud_at (hok : newOk C ops.toList = true) {L : Nat → Bool} (hcl : ∀ j p, ops.toList[j]? = some p → L j = true → ∀ k ∈ afters p, L k = true) {i : Nat} {o : Oper} (ho : ops.toList[i]? = some o) (hli : L i = false) (haf : ∀ k ∈ afters o, L k = true)
    (hq : quietOp C [] o = false) : ∀ j, lou C ops.toList j = true → L j = decide (j < i) := by
  intro j hlj
  unfold lou at hlj
  split at hlj
  · rename_i p hp
    have hqp : quietOp C [] p = false := by simpa using hlj
    by_cases hji : j < i
    · rw [decide_eq_true hji]
      exact clo_sub L hcl i _ haf j (newOk_loud hok ho hp hji hq hqp)
    · rw [decide_eq_false hji]
      by_cases he : j = i
      · rw [he]; exact hli
      · cases hLj : L j with
        | false => rfl
        | true =>
          have := clo_sub L hcl j _ (hcl j p hp hLj) i (newOk_loud hok hp ho (by omega) hqp hq)
          rw [hli] at this
          cases this
  · cases hlj
theorem quiet_at (hok : newOk C ops.toList = true) {L : Nat → Bool} (hcl : ∀ j p, ops.toList[j]? = some p → L j = true → ∀ k ∈ afters p, L k = true) {i : Nat} {o : Oper} (ho : ops.toList[i]? = some o) (hli : L i = false) (haf : ∀ k ∈ afters o, L k = true)
    (hq : quietOp C [] o = true) (hck : ∀ k, k ≤ ops.size → ckOf C P ops.toList tmps H (D k).H = true) {x : AV} (e : evOpQ C P (D i).tmps ((D i).q (waitsF C ops.toList i o)) o = some x) : evOpQ C P (D i).tmps (D (top (lou C ops.toList) L ops.size)).H o = some x := by
  have hi : i < ops.size := by simpa using (List.getElem?_eq_some_iff.1 ho).1
  cases hn : needs C ops.toList i o with
  | true =>
    have hld := needs_ld hok ho hq hn
    unfold ldQ at hld
    rw [Bool.and_eq_true, List.all_eq_true] at hld
    have hT : ∀ y ∈ o.op.operands, evA (D i).tmps y = evA tmps y := fun y hy => by
      cases y with
      | tmp t =>
        have ht : t ∈ reads ops.toList o := by
          unfold reads opTmps
          exact List.mem_append.2 (.inl (List.mem_filterMap.2 ⟨.tmp t, by simpa using hy, rfl⟩))
        have hnw := List.all_eq_true.1 (hld.2 t ht)
        have hl : (lay (fun q => decide (q < i)) 0 ops.toList ((List.range ops.size).map X) tmps)[t]? = tmps[t]? := by
          rw [lay_congr (l2 := fun _ => false) 0 ops.toList _ tmps tmps (fun j p hp hd => by
            have := hnw p (List.mem_of_getElem? hp)
            simp [hd] at this) rfl rfl, lay_none]
        simp only [evA, List.getD, D_tmps hst h0 i (by omega), hl]
      | _ => rfl
    have hw : ∀ k, k ≤ ops.size → ∃ a b, evOpQ C P tmps H o = some (.ptr a b) ∧ evOpQ C P tmps (D k).H o = some (.ptr a b) := fun k hk => by
      have h1 := hck k hk
      unfold ckOf at h1
      have h2 := List.all_eq_true.1 h1 (o, i) (by rw [List.mem_zipIdx_iff_getElem?]; exact ho)
      simp only [hq, hn, Bool.and_self, Bool.not_true, Bool.false_or] at h2
      unfold sameLd at h2
      split at h2
      · rename_i a b a' b' e1 e2
        rw [Bool.and_eq_true] at h2
        obtain rfl := Nat.eq_of_beq_eq_true h2.1
        obtain rfl := Nat.eq_of_beq_eq_true h2.2
        exact ⟨a, b, e1, e2⟩
      · cases h2
    have hmore : ∃ b, (D i).H = (D i).q (waitsF C ops.toList i o) ++ b := by
      cases hp : (D i).pre with
      | none => exact ⟨[], by rw [Ds.q_none hp, List.append_nil]⟩
      | some H0 =>
        obtain ⟨f, h1, h2, h3, h4⟩ := D_pre hst h0 i (by omega) H0 hp
        obtain ⟨b, hb⟩ := D_float hst h0 h1
        have hlf : lou C ops.toList f = true := by
          obtain ⟨hc, o', t, ho', _⟩ := floatAt_some h1
          rw [lou_of ho', cutAt_loud _ _ (by rw [← hc]; exact ho')]
          rfl
        have hDi : (D i).H = (D f).H ++ b := by
          rw [← hb, ← D_top hst h0 i (by omega), top_is (i := f) hlf (by simpa using h2) _ (by omega) fun j h5 _ hl => ?_]
          simp only [decide_eq_false_iff_not]
          intro hj
          rw [h4 j h5 hj] at hl
          cases hl
        unfold Ds.q
        rw [hp]
        cases waitsF C ops.toList i o with
        | true => exact ⟨[], (List.append_nil _).symm⟩
        | false => exact ⟨b, by rw [hDi, h3]⟩
    obtain ⟨b, hb⟩ := hmore
    obtain ⟨a1, b1, e1, e2⟩ := hw i (by omega)
    obtain ⟨a2, b2, e3, e4⟩ := hw (top (lou C ops.toList) L ops.size) (top_le _)
    have h5 : evOpQ C P (D i).tmps (D i).H o = some x := by rw [hb]; exact evOpQ_more b e
    rw [evOpQ_congr hT] at h5 ⊢
    rw [e4, ← e3, e1, ← e2, h5]
  | false =>
  cases hm : memQ o with
  | false => rw [pureQ_eq hm]; exact e
  | true =>
    have key : ∀ j, lou C ops.toList j = true → floatAt C ops.toList ≠ some j → L j = decide (j < i) := by
      intro j hlj hfj
      have hf' : (floatAt C ops.toList == some j) = false := by
        cases hf : floatAt C ops.toList with
        | none => rfl
        | some g => rw [hf] at hfj; simp at hfj; simpa using hfj
      unfold lou at hlj
      split at hlj
      · rename_i p hp
        have hqp : quietOp C [] p = false := by simpa using hlj
        by_cases hji : j < i
        · rw [decide_eq_true hji]
          exact clo_sub L hcl i _ haf j ((needs_inv hn hp).1 hji (by simp only [mustWait, hq, hqp, hm, hf']; rfl))
        · rw [decide_eq_false hji]
          by_cases he : j = i
          · rw [he]; exact hli
          · cases hLj : L j with
            | false => rfl
            | true =>
              have := clo_sub L hcl j _ (hcl j p hp hLj) i ((needs_inv hn hp).2 (by omega) (by simp only [mustWait, hq, hqp, hm, hf']; rfl))
              rw [hli] at this
              cases this
      · cases hlj
    have hloi : lou C ops.toList i = false := by rw [lou_of ho, hq]; rfl
    cases hf : floatAt C ops.toList with
    | none =>
      rw [top_congr (L2 := fun j => decide (j < i)) _ fun j _ hl => key j hl (by rw [hf]; simp), D_top hst h0 i (by omega)]
      have hp : (D i).pre = none := by
        cases hp : (D i).pre with
        | none => rfl
        | some H0 => obtain ⟨f, h1, _⟩ := D_pre hst h0 i (by omega) H0 hp; rw [hf] at h1; cases h1
      rwa [Ds.q_none hp] at e
    | some f =>
      have hfn : f < ops.size := by
        obtain ⟨_, o', t, ho', _⟩ := floatAt_some hf
        simpa using (List.getElem?_eq_some_iff.1 ho').1
      have hlf : lou C ops.toList f = true := by
        obtain ⟨hc, o', t, ho', _⟩ := floatAt_some hf
        rw [lou_of ho', cutAt_loud _ _ (by rw [← hc]; exact ho')]
        rfl
      obtain ⟨b, hb⟩ := D_float hst h0 hf
      have hDf : (D f).H = (D 0).H := by
        rw [← D_top hst h0 f (by omega), top_none]
        intro j _ hl
        simp only [decide_eq_false_iff_not]
        intro hj
        rw [no_loud hst h0 hf hj] at hl
        cases hl
      have hfi : f ≠ i := fun he => by rw [he, hloi] at hlf; cases hlf
      by_cases hLf : L f = decide (f < i)
      · rw [top_congr (L2 := fun j => decide (j < i)) _ fun j _ hl => by
          by_cases he : j = f
          · rw [he]; exact hLf
          · exact key j hl (by rw [hf]; simp; exact fun e => he e.symm), D_top hst h0 i (by omega)]
        cases hp : (D i).pre with
        | none => rwa [Ds.q_none hp] at e
        | some H0 =>
          obtain ⟨f', h1, h2, h3, h4⟩ := D_pre hst h0 i (by omega) H0 hp
          rw [hf] at h1
          obtain rfl := Option.some.inj h1
          have hDi : (D i).H = (D f).H ++ b := by
            rw [← hb, ← D_top hst h0 i (by omega), top_is (i := f) hlf (by simpa using h2) _ (by omega) fun j h5 _ hl => ?_]
            simp only [decide_eq_false_iff_not]
            intro hj
            rw [h4 j h5 hj] at hl
            cases hl
          unfold Ds.q at e
          rw [hp] at e
          cases hw : waitsF C ops.toList i o with
          | true => rw [hw] at e; exact e
          | false => rw [hw] at e; rw [hDi, ← h3]; exact evOpQ_more _ e
      · by_cases hlt : f < i
        · have hLff : L f = false := by rw [decide_eq_true hlt] at hLf; simpa using hLf
          have hw : waitsF C ops.toList i o = false := by
            unfold waitsF
            rw [hf]
            cases hc : (clo ops.toList i (afters o)).contains f with
            | false => exact hc
            | true =>
              have := clo_sub L hcl i _ haf f (by simpa using hc)
              rw [hLff] at this
              cases this
          have hno : ∀ j, f < j → j < i → lou C ops.toList j = false := fun j h1 h2 => by
            cases hl : lou C ops.toList j with
            | false => rfl
            | true =>
              have hLj := key j hl (by rw [hf]; simp; omega)
              rw [decide_eq_true h2] at hLj
              have hl' := hl
              unfold lou at hl
              split at hl
              · rename_i p hp
                have hqp : quietOp C [] p = false := by simpa using hl
                obtain ⟨hc, o', t, ho', hop, hg⟩ := floatAt_some hf
                have hqf : quietOp C [] o' = false := cutAt_loud _ _ (by rw [← hc]; exact ho')
                have := clo_sub L hcl j _ (hcl j p hp hLj) f (newOk_loud hok hp ho' h1 hqp hqf)
                rw [hLff] at this
                cases this
              · cases hl
          have hp := D_pre' hst h0 hf i (by omega) hlt hno
          unfold Ds.q at e
          rw [hp, hw] at e
          rw [top_none, ← hDf]
          · exact e
          · intro j _ hl
            by_cases he : j = f
            · rw [he]; exact hLff
            · rw [key j hl (by rw [hf]; simp; exact fun e => he e.symm)]
              simp only [decide_eq_false_iff_not]
              intro hj
              by_cases hjf : j < f
              · rw [no_loud hst h0 hf hjf] at hl; cases hl
              · rw [hno j (by omega) hj] at hl; cases hl
        · have hLft : L f = true := by rw [decide_eq_false hlt] at hLf; simpa using hLf
          have hno : ∀ j, lou C ops.toList j = true → j ≠ f → L j = false := fun j hl he => by
            rw [key j hl (by rw [hf]; simp; exact fun e => he e.symm)]
            simp only [decide_eq_false_iff_not]
            intro hj
            rw [no_loud hst h0 hf (show j < f by omega)] at hl
            cases hl
          rw [top_is (i := f) hlf hLft _ hfn fun j h1 _ hl => hno j hl (by omega), hb, hDf]
          have hDi : (D i).H = (D 0).H := by
            rw [← D_top hst h0 i (by omega), top_none]
            intro j _ hl
            simp only [decide_eq_false_iff_not]
            intro hj
            rw [no_loud hst h0 hf (show j < f by omega)] at hl
            cases hl
          have hp : (D i).pre = none := by
            cases hp : (D i).pre with
            | none => rfl
            | some H0 =>
              obtain ⟨f', h1, h2, _⟩ := D_pre hst h0 i (by omega) H0 hp
              rw [hf] at h1
              obtain rfl := Option.some.inj h1
              omega
          rw [Ds.q_none hp, hDi] at e
          exact evOpQ_more _ e
end
theorem mem_afters_of {o : Oper} {e : Edge} (he : e ∈ o.after) (hb : Region.binds .any e = true) : e.on ∈ afters o := by
  unfold afters
  exact List.mem_filterMap.2 ⟨e, by simpa using he, by rw [if_pos hb]⟩
theorem draw_new (hM : P.follows .mixedOrders = true) (hG : ∀ w', Below B w0 w' → G w') (hK : CtxOk P C G) {call : Nat → List AV → List Blk → Option (AV × List Blk)} (hC : CallOk P C G B call) {ops : Array Oper} {Q : Exit → Act → World → Prop} {tmps : List AV} {X : Nat → AV} {D : Nat → Ds} (hok : newOk C ops.toList = true)
    (h0 : D 0 = ⟨tmps, H, none⟩) (hst : Steps C P call ops 0 ops.toList X D) (hck : ∀ k, k ≤ ops.size → ckOf C P ops.toList tmps H (D k).H = true)
    (hend : ∀ a S' pl' w', Ext B S H pl S' (D ops.size).H pl' → WRel A G B w0 S' (D ops.size).H pl' w' → TRel ds S' (D ops.size).H pl' (D ops.size).tmps a → Q .normal a w') :
    ∀ (fuel : Nat) (listed : Array Bool) (S' : Sto) (pl' : Pl) (a : Act) (w : World), listed.size = ops.size → unl ops.size listed ≤ fuel → (∀ j o, ops[j]? = some o → lst listed j = true → ∀ k ∈ afters o, lst listed k = true) →
      Ext B S H pl S' (D (top (lou C ops.toList) (lst listed) ops.size)).H pl' → WRel A G B w0 S' (D (top (lou C ops.toList) (lst listed) ops.size)).H pl' w → TRel ds S' (D (top (lou C ops.toList) (lst listed) ops.size)).H pl' (lay (lst listed) 0 ops.toList ((List.range ops.size).map X) tmps) a → wpAnyIn (Fc rd) dp P .any ops Q fuel listed a w := by
  have hops : ∀ (j : Nat), ops.toList[j]? = ops[j]? := fun j => by simp
  obtain ⟨xs, hxs⟩ : ∃ xs, (List.range ops.size).map X = xs := ⟨_, rfl⟩
  have hxl : xs.length = ops.toList.length := by rw [← hxs]; simp
  have hxi : ∀ i, i < ops.size → xs[i]? = some (X i) := fun i hi => by rw [← hxs]; simp [hi]
  have hDt := fun j hj => D_tmps hst h0 j hj
  rw [hxs] at hDt ⊢
  have hready : ∀ (listed : Array Bool), listed.size = ops.size → (Region.ready .any ops listed = [] → ∀ j, j < ops.size → lst listed j = true) := by
    intro listed hsz hr j
    induction j using Nat.strongRecOn with
    | _ j ih =>
      intro hj
      by_cases hl : lst listed j = true
      · exact hl
      · have hlf : lst listed j = false := by simpa using hl
        have ho : ops[j]? = some ops[j] := Array.getElem?_eq_getElem hj
        have hm : j ∈ Region.ready .any ops listed := by
          rw [mem_ready]
          refine ⟨?_, ops[j], ho, fun e he hb => ?_⟩
          · unfold lst at hlf
            simpa [Array.getD, hsz, hj] using hlf
          · have := (newOk_inv hok (i := j) (by rw [hops]; exact ho)).1 e.on (mem_afters_of he hb)
            exact ih e.on this (by omega)
        rw [hr] at hm
        cases hm
  have hnil : ∀ (listed : Array Bool), listed.size = ops.size → (∀ j, j < ops.size → lst listed j = true) → Region.ready .any ops listed = [] := by
    intro listed hsz hall
    rw [List.eq_nil_iff_forall_not_mem]
    intro j hj
    obtain ⟨h0, o, ho, _⟩ := mem_ready.1 hj
    have hlt : j < ops.size := (Array.getElem?_eq_some_iff.1 ho).1
    have := hall j hlt
    unfold lst at this
    simp [Array.getD, hsz, hlt] at this h0
    rw [this] at h0
    cases h0
  have hcongr : ∀ (listed : Array Bool) (i : Nat) (o : Oper), ops[i]? = some o → lst listed i = false → (∀ k ∈ afters o, lst listed k = true) → (∀ j o, ops[j]? = some o → lst listed j = true → ∀ k ∈ afters o, lst listed k = true) →
      ∀ t ∈ reads ops.toList o, (lay (lst listed) 0 ops.toList xs tmps)[t]? = (D i).tmps[t]? := by
    intro listed i o ho hli haft hcl t ht
    have hi : i < ops.size := (Array.getElem?_eq_some_iff.1 ho).1
    rw [hDt i (by omega)]
    refine lay_congr 0 ops.toList xs tmps tmps (fun j p hp hd => ?_) rfl rfl
    simp only [Nat.zero_add]
    rw [hops] at hp
    by_cases hij : i = j
    · subst hij; simp [hli]
    · have := ((newOk_inv hok (i := i) (by rw [hops]; exact ho)).2.1 j p t (by rw [hops]; exact hp) hd hij).2 ht
      by_cases hlt : j < i
      · rw [if_pos hlt] at this
        rw [haft j this]
        simp [hlt]
      · rw [if_neg hlt] at this
        rw [decide_eq_false hlt]
        cases hlj : lst listed j with
        | false => rfl
        | true =>
          have := hcl j p hp hlj i this
          rw [hli] at this
          cases this
  have hev : ∀ (listed : Array Bool) (i : Nat) (o : Oper), (∀ t ∈ reads ops.toList o, (lay (lst listed) 0 ops.toList xs tmps)[t]? = (D i).tmps[t]?) → ∀ y ∈ o.op.operands, evA (lay (lst listed) 0 ops.toList xs tmps) y = evA (D i).tmps y := by
    intro listed i o h y hy
    cases y with
    | tmp t =>
      have : t ∈ reads ops.toList o := by
        unfold reads opTmps
        refine List.mem_append.2 (.inl (List.mem_filterMap.2 ⟨.tmp t, by simpa using hy, rfl⟩))
      simp only [evA, List.getD, h t this]
    | _ => rfl
  have hwant : ∀ (listed : Array Bool) (i : Nat) (o : Oper), (∀ t ∈ reads ops.toList o, (lay (lst listed) 0 ops.toList xs tmps)[t]? = (D i).tmps[t]?) → wantA ops (lay (lst listed) 0 ops.toList xs tmps) o = wantA ops (D i).tmps o := by
    intro listed i o h
    unfold wantA
    cases hg : o.guard with
    | none => rfl
    | some jb =>
      obtain ⟨j, b⟩ := jb
      simp only
      cases hp : ops[j]? with
      | none => rfl
      | some p =>
        simp only [Option.bind_some]
        cases hd : p.dst with
        | none => rfl
        | some d =>
          have : d ∈ reads ops.toList o := by
            unfold reads
            refine List.mem_append.2 (.inr ?_)
            rw [hg]
            simp only [hops, hp, hd]
            simp
          simp only [List.getD, h d this]
  have hQ : ∀ (listed : Array Bool) (S' : Sto) (pl' : Pl) (a : Act) (w : World), (∀ j, j < ops.size → lst listed j = true) → Ext B S H pl S' (D (top (lou C ops.toList) (lst listed) ops.size)).H pl' → WRel A G B w0 S' (D (top (lou C ops.toList) (lst listed) ops.size)).H pl' w → TRel ds S' (D (top (lou C ops.toList) (lst listed) ops.size)).H pl' (lay (lst listed) 0 ops.toList xs tmps) a → Q .normal a w := by
    intro listed S' pl' a w hall hE hW hT
    have h1 : top (lou C ops.toList) (lst listed) ops.size = top (lou C ops.toList) (fun i => decide (i < ops.size)) ops.size := top_congr _ fun j hj _ => by rw [hall j hj, decide_eq_true hj]
    have h2 : lay (lst listed) 0 ops.toList xs tmps = (D ops.size).tmps := by
      rw [hDt ops.size (Nat.le_refl _)]
      apply List.ext_getElem?
      intro t
      refine lay_congr 0 ops.toList xs tmps tmps (fun j p hp _ => ?_) rfl rfl
      rw [Nat.zero_add]
      have hj : j < ops.size := by simpa using (List.getElem?_eq_some_iff.1 hp).1
      rw [hall j hj, decide_eq_true hj]
    rw [h1] at hE hW hT
    rw [D_top hst h0 ops.size (Nat.le_refl _)] at hE hW hT
    rw [h2] at hT
    exact hend a S' pl' w hE hW hT
  intro fuel
  induction fuel with
  | zero =>
    intro listed S' pl' a w hsz hun hcl hE hW hT
    have hall : ∀ j, j < ops.size → lst listed j = true := by
      intro j hj
      have h0 : ((List.range ops.size).filter fun j => !lst listed j) = [] := List.eq_nil_of_length_eq_zero (by unfold unl at hun; omega)
      have := List.filter_eq_nil_iff.1 h0 j (List.mem_range.2 hj)
      simpa using this
    exact ⟨hnil listed hsz hall, hQ listed S' pl' a w hall hE hW hT⟩
  | succ fuel ih =>
    intro listed S' pl' a w hsz hun hcl hE hW hT
    refine ⟨fun hr => hQ listed S' pl' a w (hready listed hsz hr) hE hW hT, fun i hi => ?_⟩
    obtain ⟨h00, o, ho, haf⟩ := mem_ready.1 hi
    have hlt : i < ops.size := (Array.getElem?_eq_some_iff.1 ho).1
    have hli : lst listed i = false := by unfold lst; simpa [Array.getD, hsz, hlt] using h00
    have haft : ∀ k ∈ afters o, lst listed k = true := fun k hk => by
      obtain ⟨e, he, hb, rfl⟩ := mem_afters hk
      exact haf e he hb
    have hset := lst_set (listed := listed) (i := i) (by omega)
    have hot : ops.toList[i]? = some o := by rw [hops]; exact ho
    have hclt : ∀ j p, ops.toList[j]? = some p → lst listed j = true → ∀ k ∈ afters p, lst listed k = true := fun j p hp => hcl j p (by rw [← hops]; exact hp)
    have hc := hcongr listed i o ho hli haft hcl
    have hun' : unl ops.size (listed.setIfInBounds i true) ≤ fuel := by
      have := unl_lt (p := fun j => !lst listed j) (q := fun j => !lst (listed.setIfInBounds i true) j) (i := i) (by simp [hli]) (by simp [hset]) (fun j hj => by simp [hset] at hj; simp [hj.1]) (List.range ops.size) (List.mem_range.2 hlt)
      unfold unl at hun ⊢
      omega
    have hcl' : ∀ j p, ops[j]? = some p → lst (listed.setIfInBounds i true) j = true → ∀ k ∈ afters p, lst (listed.setIfInBounds i true) k = true := fun j p hp hj k hk => by
      rw [hset] at hj ⊢
      by_cases hji : j = i
      · subst hji
        rw [ho] at hp
        obtain rfl := Option.some.inj hp
        simp [haft k hk]
      · simp only [decide_eq_false hji, Bool.or_false] at hj
        simp [hcl j p hp hj k hk]
    have hlay : lay (lst (listed.setIfInBounds i true)) 0 ops.toList xs tmps = put (lay (lst listed) 0 ops.toList xs tmps) o.dst (X i) := by
      apply List.ext_getElem?
      intro t
      by_cases hd : o.dst = some t
      · by_cases htl : t < tmps.length
        · rw [lay_at 0 ops.toList xs tmps i o (X i) hot (hxi i hlt) hd (by rw [Nat.zero_add, hset]; simp) (fun j p hp hpd => ?_) htl, hd]
          · simp [put, lay_length, htl]
          · by_cases hij : i = j
            · exact hij.symm
            · exact absurd hd ((newOk_inv hok hot).2.1 j p t hp hpd hij).1
        · rw [List.getElem?_eq_none (by rw [lay_length]; omega), List.getElem?_eq_none (by rw [put_length, lay_length]; omega)]
      · rw [put_ne hd]
        refine lay_congr 0 ops.toList xs tmps tmps (fun j p hp hpd => ?_) rfl rfl
        rw [Nat.zero_add, hset]
        by_cases hji : j = i
        · subst hji
          rw [hot] at hp
          obtain rfl := Option.some.inj hp
          exact absurd hpd hd
        · simp [hji]
    have e := (hst i o hot).1
    rw [Nat.zero_add] at e
    have hev' := hev listed i o hc
    unfold wpOpIn
    rw [ho]
    simp only
    cases hq : quietOp C [] o with
    | true =>
      have hlo : lou C ops.toList i = false := by rw [lou_of hot, hq]; rfl
      have htop : top (lou C ops.toList) (lst (listed.setIfInBounds i true)) ops.size = top (lou C ops.toList) (lst listed) ops.size := top_congr _ fun j _ hl => by
        rw [hset, decide_eq_false (fun he => by rw [he, hlo] at hl; cases hl), Bool.or_false]
      unfold stD at e
      split at e
      · rename_i hw
        simp only [hq] at e
        split at e
        · rename_i x hx
          simp only [Option.some.injEq, Prod.mk.injEq] at e
          obtain ⟨rfl, _⟩ := e
          have hx2 := quiet_at hst h0 hok hclt hot hli haft hq hck hx
          rw [← hwant listed i o hc] at hw
          rw [if_pos (wantA_sound hT hw)]
          refine oper_in (evOpQ_nd hx2) (evOpQ_sound hG hK hT hW (by rw [evOpQ_congr hev']; exact hx2) _ _ fun u S2 pl2 w2 hE2 hW2 hR => ?_)
          refine ih _ S2 pl2 _ w2 (by simpa using hsz) hun' hcl' ?_ ?_ ?_
          · rw [htop]; exact hE.trans hE2
          · rw [htop]; exact hW2
          · rw [htop, hlay]; exact (hT.mono hE2).put o.dst hR
        · cases e
      · rename_i hw
        simp only [Option.some.injEq, Prod.mk.injEq] at e
        obtain ⟨hX, _⟩ := e
        rw [← hwant listed i o hc] at hw
        rw [if_neg (by rw [wantA_sound hT hw]; decide)]
        refine And.intro (fun f _ => Fc_fn rd f) ?_
        refine ih _ S' pl' _ w (by simpa using hsz) hun' hcl' ?_ ?_ ?_
        · rw [htop]; exact hE
        · rw [htop]; exact hW
        · rw [htop, hlay, ← hX]; exact hT.put o.dst (.val _ _ (.v _))
      · cases e
    | false =>
      have hlo : lou C ops.toList i = true := by rw [lou_of hot, hq]; rfl
      have hL := loud_at hst h0 hok hclt hot hli haft hq
      have ht1 : top (lou C ops.toList) (lst listed) ops.size = top (lou C ops.toList) (fun j => decide (j < i)) ops.size := top_congr _ fun j _ hl => hL j hl
      have ht2 : top (lou C ops.toList) (lst (listed.setIfInBounds i true)) ops.size = i + 1 := top_is hlo (by rw [hset]; simp) _ hlt fun j h1 _ hl => by
        rw [hset, hL j hl, decide_eq_false (by omega), decide_eq_false (by omega)]; rfl
      rw [ht1] at hE hW hT
      rw [D_top hst h0 i (by omega)] at hE hW hT
      unfold stD at e
      split at e
      · rename_i hw
        simp only [hq] at e
        split at e
        · rename_i x H' hx
          simp only [Option.some.injEq, Prod.mk.injEq] at e
          obtain ⟨rfl, hD⟩ := e
          have hH : (D (i + 1)).H = H' := by rw [← hD]
          rw [← hwant listed i o hc] at hw
          rw [if_pos (wantA_sound hT hw)]
          refine oper_in (evOp_nd hx) (evOp_sound hG hK hC hT hW (by rw [evOp_congr hev']; exact hx) _ _ fun u S2 pl2 w2 hE2 hW2 hR => ?_)
          refine ih _ S2 pl2 _ w2 (by simpa using hsz) hun' hcl' ?_ ?_ ?_
          · rw [ht2, hH]; exact hE.trans hE2
          · rw [ht2, hH]; exact hW2
          · rw [ht2, hH, hlay]; exact (hT.mono hE2).put o.dst hR
        · cases e
      · rename_i hw
        simp only [Option.some.injEq, Prod.mk.injEq] at e
        obtain ⟨hX, hD⟩ := e
        have hH : (D (i + 1)).H = (D i).H := by rw [← hD]
        rw [← hwant listed i o hc] at hw
        rw [if_neg (by rw [wantA_sound hT hw]; decide)]
        refine And.intro (fun f _ => Fc_fn rd f) ?_
        refine ih _ S' pl' _ w (by simpa using hsz) hun' hcl' ?_ ?_ ?_
        · rw [ht2, hH]; exact hE
        · rw [ht2, hH]; exact hW
        · rw [ht2, hH, hlay, ← hX]; exact hT.put o.dst (.val _ _ (.v _))
      · cases e

theorem zAV_hb (n : Nat) : ∀ (ks : List Nat) (us : List Value), AV.hbs n (zAV ks us) = true
  | ks, [] => by cases ks <;> rfl
  | [], u :: us => by simp only [zAV, AV.hbs, zAV_hb n [] us, Bool.and_true]; rfl
  | k :: ks, u :: us => by
    simp only [zAV, AV.hbs, zAV_hb n ks us, Bool.and_true]
    split <;> rfl
theorem cells_hb {n : Nat} {x : AV} (h : AV.hb n x = true) : AV.hbs n x.cells = true := by
  cases x with
  | agg cs =>
    show AV.hbs n cs = true
    simpa [AV.hb] using h
  | _ => simp only [AV.cells, AV.hbs, h]; rfl
theorem evA_hb {n : Nat} {T : List AV} (hT : ∀ (i : Nat) y, T[i]? = some y → AV.hb n y = true) (x : Operand) : AV.hb n (evA T x) = true := by
  cases x with
  | tmp t =>
    simp only [evA, List.getD]
    cases h : T[t]? with
    | none => rfl
    | some y => exact hT t y h
  | _ => rfl
theorem mk_of {call : Nat → List AV → List Blk → Option (AV × List Blk)} {T : List AV} {H1 H' : List Blk} {o : Oper} {x : AV} {n : Nat} (hm : mkOp C o = true) (e : evOp C P call T H1 o = some (x, H')) (hT : ∀ (i : Nat) y, T[i]? = some y → AV.hb n y = true) :
    o.guard = none ∧ ∃ cs, x = .ptr H1.length 0 ∧ H' = H1 ++ [.var cs] ∧ AV.hbs n cs = true ∧ ∀ (H2 : List Blk) (T2 : List AV), (∀ y ∈ o.op.operands, evA T2 y = evA T y) → evOp C P call T2 H2 o = some (.ptr H2.length 0, H2 ++ [.var cs]) := by
  unfold mkOp at hm
  split at hm
  · rename_i t ho hg
    refine ⟨hg, ?_⟩
    have hq : ∀ T' H', evOpQ C P T' H' o = none := fun T' H' => by simp only [evOpQ, ho]
    have key : ∃ zs, (C.td t).zero = some zs ∧ ∀ T2 H2, evOpE C call T2 H2 o = some (.ptr H2.length 0, H2 ++ [.var (zAV (C.zz t) zs)]) := by
      unfold evOp at e
      rw [hq] at e
      cases htd : C.td t with
      | sl a b c => rw [htd] at hm; cases hm
      | one z => exact ⟨[z], rfl, fun T2 H2 => by simp only [evOpE, ho, htd]; rfl⟩
      | agg sz fs zs => exact ⟨zs, rfl, fun T2 H2 => by simp only [evOpE, ho, htd]; rfl⟩
      | no =>
        have : evOpE C call T H1 o = none := by simp only [evOpE, ho, htd]; rfl
        rw [this] at e
        cases e
    obtain ⟨zs, hz, hE⟩ := key
    have h2 : ∀ T2 H2, evOp C P call T2 H2 o = some (.ptr H2.length 0, H2 ++ [.var (zAV (C.zz t) zs)]) := fun T2 H2 => by unfold evOp; rw [hE]
    rw [h2] at e
    simp only [Option.some.injEq, Prod.mk.injEq] at e
    obtain ⟨rfl, rfl⟩ := e
    exact ⟨_, rfl, rfl, zAV_hb n _ _, fun H2 T2 _ => h2 T2 H2⟩
  · rename_i t y ho hg
    refine ⟨hg, ?_⟩
    have hq : ∀ T' H', evOpQ C P T' H' o = none := fun T' H' => by simp only [evOpQ, ho]
    have hat : (evA T y).cells.all AV.atom = true ∧ x = .ptr H1.length 0 ∧ H' = H1 ++ [.var (evA T y).cells] := by
      unfold evOp at e
      rw [hq] at e
      simp only [evOpE, ho] at e
      by_cases h : (evA T y).cells.all AV.atom = true
      · rw [if_pos h] at e
        simp only [Option.some.injEq, Prod.mk.injEq] at e
        exact ⟨h, e.1.symm, e.2.symm⟩
      · rw [if_neg h] at e
        cases e
    obtain ⟨h1, rfl, rfl⟩ := hat
    refine ⟨_, rfl, rfl, cells_hb (evA_hb hT y), fun H2 T2 hy => ?_⟩
    have : evA T2 y = evA T y := hy y (by rw [ho]; simp [Op.operands])
    unfold evOp
    simp only [evOpE, ho, this, if_pos h1]
  · cases hm
theorem hbAt_get {n : Nat} {t : List AV} : ∀ {l : List Oper} {j : Nat} {o : Oper} {d : Nat}, hbAt n t l = true → l[j]? = some o → o.dst = some d → AV.hb n (t.getD d .any) = true
  | [], j, o, d, h, e, _ => by cases e
  | p :: l, 0, o, d, h, e, hd => by
    obtain rfl := Option.some.inj e
    unfold hbAt at h
    rw [Bool.and_eq_true, hd] at h
    exact h.1
  | p :: l, j + 1, o, d, h, e, hd => by
    unfold hbAt at h
    rw [Bool.and_eq_true] at h
    exact hbAt_get h.2 e hd
theorem evDrawTwo_sound (hM : P.follows .mixedOrders = true) (hG : ∀ w', Below B w0 w' → G w') (hK : CtxOk P C G) {call : Nat → List AV → List Blk → Option (AV × List Blk)} (hC : CallOk P C G B call) {id : Nat} {ops : Array Oper} {Q : Exit → Act → World → Prop} {s s' : St} {a : Act} (h2 : twoOk C ops.toList = true)
    (e : (match evQs C P s.H ops (ops.toList.take (cutAt C ops.toList)) s.tmps with
        | some (_, t) => match hbAt s.H.length t (ops.toList.take (cutAt C ops.toList)) with
          | true => evOps C P call ops (ops.toList.drop (cutAt C ops.toList)) ⟨t, s.H, s.base⟩
          | false => none
        | none => none) = some s') (ht : TRel ds S s.H pl s.tmps a) (h : WRel A G B w0 S s.H pl w) (k : Post (ds := ds) P A G B w0 S s.H pl s' (Q .normal)) : (Code.region id ops true).wpIn (Fc rd) dp P Q a w := by
  unfold twoOk at h2
  rw [Bool.and_eq_true] at h2
  obtain ⟨hok, h2⟩ := h2
  have hops : ∀ (j : Nat), ops.toList[j]? = ops[j]? := fun j => by simp
  split at h2
  · rename_i o1 o2 r hdr
    simp only [Bool.and_eq_true] at h2
    obtain ⟨hm1, hm2, hr1, hr2, hsk⟩ := h2
    rw [hdr] at e
    split at e
    · rename_i xs t hq
      split at e
      · rename_i hhb
        obtain ⟨h1, ht2, h3⟩ := evQs_inv _ _ _ _ hq
        have hget : ∀ j, ops[cutAt C ops.toList + j]? = (o1 :: o2 :: r)[j]? := fun j => by rw [← hdr, List.getElem?_drop, hops]
        have ho1 : ops[cutAt C ops.toList]? = some o1 := by simpa using hget 0
        have ho2 : ops[cutAt C ops.toList + 1]? = some o2 := by simpa using hget 1
        have hlt : cutAt C ops.toList + 1 < ops.size := (Array.getElem?_eq_some_iff.1 ho2).1
        have htm : ∀ (i : Nat) y, s.tmps[i]? = some y → AV.hb s.H.length y = true := fun i y hy => by
          have hi : i < s.tmps.length := (List.getElem?_eq_some_iff.1 hy).1
          have : i < a.tmps.size := by rw [ht.2.1]; exact hi
          exact rep_hb y (ht.2.2 i y _ hy (Array.getElem?_eq_getElem this))
        have hqs : ∀ (i : Nat) o, (ops.toList.take (cutAt C ops.toList))[i]? = some o ↔ (ops[i]? = some o ∧ i < cutAt C ops.toList) := fun i o => by
          rw [List.getElem?_take]
          by_cases hi : i < cutAt C ops.toList
          · rw [if_pos hi]; simp [hi]
          · rw [if_neg hi]; exact ⟨(fun hh => by cases hh), (fun hh => absurd hh.2 hi)⟩
        have hxb : ∀ (j : Nat) o x d, (ops.toList.take (cutAt C ops.toList))[j]? = some o → xs[j]? = some x → o.dst = some d → d < s.tmps.length → AV.hb s.H.length x = true := fun j o x d hj hx hd hdl => by
          have h4 := hbAt_get hhb hj hd
          have h5 : t[d]? = some x := by
            rw [ht2]
            exact lay_at 0 _ xs s.tmps j o x hj hx hd rfl (fun q p hp hpd => by
              by_cases hqj : j = q
              · exact hqj.symm
              · exact absurd hd ((drawOk_inv hok (i := j) (by rw [hops]; exact ((hqs j o).1 hj).1)).2 q p d (by rw [hops]; exact ((hqs q p).1 hp).1) hpd hqj).1) hdl
          rw [List.getD, h5] at h4
          exact h4
        have hTl : ∀ (i : Nat) y, t[i]? = some y → AV.hb s.H.length y = true := fun i y hy => by
          rw [ht2] at hy
          rcases lay_mem 0 _ xs s.tmps hy with h | ⟨j, o, hj, hxj, hd, htl⟩
          · exact htm i y h
          · exact hxb j o y i hj hxj hd htl
        have hg1 : o1.guard = none := by
          unfold mkOp at hm1
          split at hm1 <;> first | assumption | cases hm1
        have hg2 : o2.guard = none := by
          unfold mkOp at hm2
          split at hm2 <;> first | assumption | cases hm2
        have hw1 : ∀ T, wantA ops T o1 = some true := fun T => by unfold wantA; rw [hg1]
        have hw2 : ∀ T, wantA ops T o2 = some true := fun T => by unfold wantA; rw [hg2]
        rw [evOps, hw1] at e
        simp only at e
        cases hv1 : evOp C P call t s.H o1 with
        | none => rw [hv1] at e; cases e
        | some r1 =>
          obtain ⟨x1, H1⟩ := r1
          rw [hv1] at e
          simp only at e
          obtain ⟨_, c1, rfl, rfl, hc1, he1⟩ := mk_of hm1 hv1 hTl
          rw [evOps, hw2] at e
          simp only at e
          cases hv2 : evOp C P call (put t o1.dst (.ptr s.H.length 0)) (s.H ++ [.var c1]) o2 with
          | none => rw [hv2] at e; cases e
          | some r2 =>
            obtain ⟨x2, H2⟩ := r2
            rw [hv2] at e
            simp only at e
            have hne : ∀ t', o1.dst = some t' → t' ∉ reads ops.toList o2 := fun t' hd hm => by
              rw [hd] at hr2
              simp at hr2
              exact hr2 hm
            have hne2 : ∀ t', o2.dst = some t' → t' ∉ reads ops.toList o1 := fun t' hd hm => by
              rw [hd] at hr1
              simp at hr1
              exact hr1 hm
            have hsame : ∀ y ∈ o2.op.operands, evA (put t o1.dst (.ptr s.H.length 0)) y = evA t y := fun y hy => by
              cases y with
              | tmp q =>
                have hq : q ∈ reads ops.toList o2 := by
                  unfold reads opTmps
                  exact List.mem_append.2 (.inl (List.mem_filterMap.2 ⟨.tmp q, by simpa using hy, rfl⟩))
                simp only [evA, List.getD]
                rw [put_ne fun hd => hne q hd hq]
              | _ => rfl
            have hv2' : evOp C P call t (s.H ++ [.var c1]) o2 = some (x2, H2) := by
              rw [← evOp_congr hsame]
              exact hv2
            obtain ⟨_, c2, rfl, rfl, hc2, he2⟩ := mk_of hm2 hv2' hTl
            rw [List.append_assoc] at e
            simp only [List.length_append, List.length_cons, List.length_nil, Nat.zero_add, List.cons_append, List.nil_append] at e
            refine wpIn_region_any hM ?_
            have hun : unl ops.size (Array.replicate ops.size false) ≤ ops.size := by
              unfold unl
              exact Nat.le_trans (List.length_filter_le _ _) (by simp)
            have hlf : ∀ j, lst (Array.replicate ops.size false) j = false := fun j => by
              unfold lst
              by_cases hj : j < ops.size <;> simp [hj]
            have hlay0 : ∀ (k : Nat) (os : List Oper) (xs tmps : List AV), lay (fun _ => false) k os xs tmps = tmps := by
              intro k os
              induction os generalizing k with
              | nil => intro xs tmps; rfl
              | cons o os ih => intro xs tmps; cases xs with
                | nil => rfl
                | cons x xs => rw [lay]; simp [ih]
            have hlf' : lst (Array.replicate ops.size false) = fun _ => false := funext hlf
            refine draw_two hM hG hK hC hok (S := S) (H := s.H) (pl := pl) (qs := ops.toList.take (cutAt C ops.toList)) (tmps := s.tmps) (xs := xs) (m := cutAt C ops.toList) (o1 := o1) (o2 := o2) (c1 := c1) (c2 := c2) hqs (by rw [h1]; simp; omega) h3 ho1 ho2 hg1 hg2 hne2 hne
              (fun H' T' hy => he1 H' T' (by rw [← ht2] at hy; exact hy)) (fun H' T' hy => he2 H' T' (by rw [← ht2] at hy; exact hy)) (low_of h.h) hc1 hc2 htm hxb (fun i hi L o ho hL hclo => ?_) (fun a2 S2 pl2 w2 hE hW hT => ?_) _ _ S pl a _ (by simp) hun (fun j o _ hj => by rw [hlf] at hj; cases hj) (fun j _ => hlf j) (by rw [hlf, hlf]; exact Ext.refl _ _ _) (by rw [hlf, hlf]; exact drew_W h hG) (by rw [hlf, hlf, hlf', hlay0]; exact ht)
            · obtain ⟨j, rfl⟩ : ∃ j, i = cutAt C ops.toList + 2 + j := ⟨i - (cutAt C ops.toList + 2), by omega⟩
              have hj : r[j]? = some o := by
                have := hget (2 + j)
                rw [← Nat.add_assoc, ho, show 2 + j = j + 1 + 1 by omega, List.getElem?_cons_succ, List.getElem?_cons_succ] at this
                exact this.symm
              have hs := sinkFrom_get _ _ hsk j o hj
              exact sinkR_sound L (fun j p hp => hclo j p (by simpa using hp)) _ _ hs hL
            · have hd : ops.toList.drop (cutAt C ops.toList + 2) = r := by rw [← List.drop_drop, hdr]; rfl
              rw [hd]
              rw [← ht2] at hT
              exact evOps_sound hG hK hC _ ⟨_, _, s.base⟩ s' S2 pl2 a2 w2 e hT hW fun a3 S3 pl3 w3 hE3 hW3 hT3 => k a3 S3 pl3 w3 (hE.trans hE3) hW3 hT3
      · cases e
    · cases e
  · cases h2
theorem evDraw_sound (hM : P.follows .mixedOrders = true) (hG : ∀ w', Below B w0 w' → G w') (hK : CtxOk P C G) {call : Nat → List AV → List Blk → Option (AV × List Blk)} (hC : CallOk P C G B call) {id : Nat} {ops : Array Oper} {Q : Exit → Act → World → Prop} {s s' : St} {a : Act}
    (e : evDraw C P call ops s = some s') (ht : TRel ds S s.H pl s.tmps a) (h : WRel A G B w0 S s.H pl w) (k : Post (ds := ds) P A G B w0 S s.H pl s' (Q .normal)) : (Code.region id ops true).wpIn (Fc rd) dp P Q a w := by
  unfold evDraw at e
  split at e
  · rename_i hold
    exact evDrawOld_sound hM hG hK hC hold e ht h k
  · split at e
    · rename_i hok
      split at e
      · rename_i hc0
        split at e
        · rename_i d hd
          obtain rfl := Option.some.inj e
          obtain ⟨X, D, h0, h1, hst, hcks⟩ := evD_inv _ _ _ _ hd
          have hckk : ∀ k, k ≤ ops.size → ckOf C P ops.toList s.tmps s.H (D k).H = true := fun k hk => by
            cases k with
            | zero => rw [h0]; exact hc0
            | succ k => exact hcks k (by simp; omega)
          have h1 : D ops.size = d := by simpa using h1
          refine wpIn_region_any hM ?_
          have hun : unl ops.size (Array.replicate ops.size false) ≤ ops.size := by
            unfold unl
            exact Nat.le_trans (List.length_filter_le _ _) (by simp)
          have hlf : lst (Array.replicate ops.size false) = fun _ => false := by
            funext j
            unfold lst
            by_cases hj : j < ops.size <;> simp [hj]
          have htop : top (lou C ops.toList) (lst (Array.replicate ops.size false)) ops.size = 0 := top_none _ fun j _ _ => by rw [hlf]
          refine draw_new (A := A) (ds := ds) hM hG hK hC (S := S) (H := s.H) (pl := pl) (tmps := s.tmps) hok h0 hst hckk (fun a S2 pl2 w2 hE hW hT => ?_) _ _ S pl a _ (by simp) hun (fun j o _ hj => by rw [hlf] at hj; cases hj) ?_ ?_ ?_
          · rw [h1] at hE hW hT
            exact k a S2 pl2 w2 hE hW hT
          · rw [htop, h0]; exact Ext.refl _ _ _
          · rw [htop, h0]; exact drew_W h hG
          · rw [htop, h0, hlf, lay_none]; exact ht
        · cases e
      · cases e
    · split at e
      · rename_i h2
        exact evDrawTwo_sound hM hG hK hC h2 e ht h k
      · cases e
end
end Go.Proofs.Ytkifbcjmmkbilaa.Av
