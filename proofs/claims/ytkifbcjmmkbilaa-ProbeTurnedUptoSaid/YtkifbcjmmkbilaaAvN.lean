/- More rounds give the same answer; runs of code put together. -/
import Derived.Test.YtkifbcjmmkbilaaAvM
set_option linter.unusedVariables false
set_option linter.unusedSimpArgs false
namespace Go.Proofs.Ytkifbcjmmkbilaa.Av
open Go Go.RowKit
variable {P : Program} {C : Ctx}

def CallLe (f g : Nat → List AV → List Blk → Option (AV × List Blk)) : Prop := ∀ n args H r, f n args H = some r → g n args H = some r

theorem evOpE_nocall {f g : Nat → List AV → List Blk → Option (AV × List Blk)} {tmps : List AV} {H : List Blk} {o : Oper} (h : ∀ c, o.op ≠ .call c) : evOpE C f tmps H o = evOpE C g tmps H o := by
  unfold evOpE
  generalize o.op = p at *
  split <;> first | rfl | skip
  · exact absurd rfl (h _)
theorem evOpE_mono {f g : Nat → List AV → List Blk → Option (AV × List Blk)} (h : CallLe f g) {tmps : List AV} {H : List Blk} {o : Oper} {r : AV × List Blk} (e : evOpE C f tmps H o = some r) : evOpE C g tmps H o = some r := by
  cases ho : o.op with
  | call c =>
    simp only [evOpE, ho] at e ⊢
    cases hc : c.callee with
    | value x =>
      simp only [hc] at e ⊢
      cases hm : callMA C (evA tmps x) (c.args.toList.map (evA tmps)) H with
      | some q => simpa only [hm] using e
      | none =>
        simp only [hm] at e ⊢
        cases hx : evA tmps x <;> simp only [hx] at e ⊢ <;> first | exact h _ _ _ _ e | cases e
    | invoke a b => simp only [hc] at e; cases e
    | builtin b => cases b <;> first | exact e | (simp only [hc] at e ⊢; done) | (simp only [hc] at e ⊢; exact e)
  | _ => rw [evOpE_nocall (g := f) (fun c hc => by rw [ho] at hc; cases hc)]; exact e

theorem evOpE_none {f g : Nat → List AV → List Blk → Option (AV × List Blk)} {tmps : List AV} {H : List Blk} {o : Oper} {x : AV} (e : evOpE C f tmps H o = none) (q : evOpQ C P tmps H o = some x) : evOpE C g tmps H o = none := by
  cases ho : o.op with
  | call c =>
    simp only [evOpE, ho] at e ⊢
    simp only [evOpQ, ho] at q
    cases hc : c.callee with
    | value y =>
      simp only [hc] at e q ⊢
      cases hm : callMA C (evA tmps y) (c.args.toList.map (evA tmps)) H with
      | some z => simp only [hm] at e; split at e <;> cases e
      | none => simp only [hm] at q; cases q
    | invoke a b => simp only [hc]
    | builtin b => cases b <;> first | exact e | (simp only [hc] at e ⊢; done) | (simp only [hc] at e ⊢; exact e)
  | _ => rw [evOpE_nocall (g := f) (fun c hc => by rw [ho] at hc; cases hc)]; exact e

theorem evOp_mono {f g : Nat → List AV → List Blk → Option (AV × List Blk)} (h : CallLe f g) {tmps : List AV} {H : List Blk} {o : Oper} {r : AV × List Blk} (e : evOp C P f tmps H o = some r) : evOp C P g tmps H o = some r := by
  unfold evOp at e ⊢
  cases hE : evOpE C f tmps H o with
  | some q => rw [hE] at e; rw [evOpE_mono h hE]; exact e
  | none =>
    rw [hE] at e
    cases hQ : evOpQ C P tmps H o with
    | none => simp only [hQ] at e; cases e
    | some x => rw [evOpE_none (g := g) hE hQ]; simpa only [hQ] using e

theorem evOps_mono {f g : Nat → List AV → List Blk → Option (AV × List Blk)} (h : CallLe f g) {ops : Array Oper} : ∀ (l : List Oper) (s s' : St), evOps C P f ops l s = some s' → evOps C P g ops l s = some s'
  | [], s, s', e => e
  | o :: l, s, s', e => by
    simp only [evOps] at e ⊢
    cases hw : wantA ops s.tmps o with
    | none => simp only [hw] at e; cases e
    | some b =>
      cases b with
      | true =>
        simp only [hw] at e ⊢
        cases ho : evOp C P f s.tmps s.H o with
        | none => simp only [ho] at e; cases e
        | some q =>
          simp only [ho] at e
          rw [evOp_mono h ho]
          exact evOps_mono h l _ s' e
      | false =>
        simp only [hw] at e ⊢
        exact evOps_mono h l _ s' e

theorem evD_mono {f g : Nat → List AV → List Blk → Option (AV × List Blk)} (h : CallLe f g) {ops : Array Oper} {ck : List Blk → Bool} : ∀ (l : List Oper) (k : Nat) (d d' : Ds), evD C P f ops ck k l d = some d' → evD C P g ops ck k l d = some d'
  | [], k, d, d', e => e
  | o :: l, k, d, d', e => by
    simp only [evD] at e ⊢
    cases hs : stD C P f ops (floatAt C ops.toList) (waitsF C ops.toList k o) k o d with
    | none => simp only [hs] at e; cases e
    | some q =>
      obtain ⟨x, d1⟩ := q
      have : stD C P g ops (floatAt C ops.toList) (waitsF C ops.toList k o) k o d = some (x, d1) := by
        unfold stD at hs ⊢
        split at hs
        · rename_i hw
          split at hs
          · rename_i hq
            exact hs
          · rename_i hq
            split at hs
            · rename_i y H' ho
              simp only [evOp_mono h ho]
              exact hs
            · cases hs
        · exact hs
        · cases hs
      simp only [hs] at e
      simp only [this]
      split at e
      · exact evD_mono h l (k + 1) d1 d' e
      · cases e
theorem evDraw_mono {f g : Nat → List AV → List Blk → Option (AV × List Blk)} (h : CallLe f g) {ops : Array Oper} {s s' : St} (e : evDraw C P f ops s = some s') : evDraw C P g ops s = some s' := by
  unfold evDraw at e ⊢
  split at e
  · split at e
    · exact e
    · split at e
      · exact evOps_mono h _ _ _ e
      · cases e
  · split at e
    · split at e
      · split at e
        · rename_i hd
          simp only [evD_mono h _ _ _ _ hd]
          exact e
        · cases e
      · cases e
    · split at e
      · split at e
        · split at e
          · exact evOps_mono h _ _ _ e
          · cases e
        · cases e
      · cases e

theorem evFn_mono {run run' : Code → St → Option (Ex × St)} (h : ∀ c s r, run c s = some r → run' c s = some r) : CallLe (evFn C run) (evFn C run') := by
  intro n args H r e
  unfold evFn at e ⊢
  cases hf : C.fn n with
  | none => rw [hf] at e; cases e
  | some fn =>
    simp only [hf] at e ⊢
    cases hb : fn.body with
    | none => rw [hb] at e; cases e
    | some c =>
      simp only [hb] at e ⊢
      cases hr : run c ⟨args ++ List.replicate (fn.ntmps - args.length) .any, H, H.length⟩ with
      | none => rw [hr] at e; cases e
      | some q => rw [hr] at e; rw [h _ _ _ hr]; exact e

theorem evRows_mono {run run' : Code → St → Option (Ex × St)} (h : ∀ c s r, run c s = some r → run' c s = some r) (ps : List Nat) (asg body : Code) : ∀ (rows : List (List AV)) (s : St) (r : Ex × St), evRows run ps asg body rows s = some r → evRows run' ps asg body rows s = some r
  | [], s, r, e => by simpa only [evRows] using e
  | row :: rows, s, r, e => by
    rw [evRows] at e ⊢
    cases h1 : run asg ⟨setPs s.tmps ps row, s.H, s.H.length⟩ with
    | none => rw [h1] at e; cases e
    | some q =>
      obtain ⟨e1, s1⟩ := q
      rw [h1] at e
      rw [h _ _ _ h1]
      cases e1 with
      | exit i => cases e
      | ret => cases e
      | norm =>
        simp only at e ⊢
        cases h2 : run body s1 with
        | none => rw [h2] at e; cases e
        | some q =>
          obtain ⟨e2, s2⟩ := q
          rw [h2] at e
          rw [h _ _ _ h2]
          cases e2 with
          | norm => exact evRows_mono h ps asg body rows _ r e
          | exit i => exact e
          | ret => exact e
theorem evCode_mono : ∀ (n : Nat) (c : Code) (s : St) (r : Ex × St), evCode C P n c s = some r → evCode C P (n + 1) c s = some r := by
  intro n
  induction n with
  | zero => intro c s r e; simp [evCode] at e
  | succ n ih =>
    intro c s r e
    have hcall : CallLe (evFn C (evCode C P n)) (evFn C (evCode C P (n + 1))) := evFn_mono ih
    cases c with
    | skip => simpa only [evCode] using e
    | label l => simpa only [evCode] using e
    | region id ops d =>
      cases d with
      | true =>
        rw [evCode] at e ⊢
        cases hb : evDraw C P (evFn C (evCode C P n)) ops (fzS C ops s) with
        | none => rw [hb] at e; cases e
        | some s1 => rw [hb] at e; rw [evDraw_mono hcall hb]; exact e
      | false =>
        rw [evCode] at e ⊢
        cases hb : evOps C P (evFn C (evCode C P n)) ops ops.toList (fzS C ops s) with
        | none => rw [hb] at e; cases e
        | some s1 => rw [hb] at e; rw [evOps_mono hcall _ _ _ hb]; exact e
    | seq x y =>
      rw [evCode] at e ⊢
      cases hb : evCode C P n x s with
      | none => rw [hb] at e; cases e
      | some q =>
        rw [hb] at e
        rw [ih _ _ _ hb]
        obtain ⟨e1, s1⟩ := q
        cases e1 with
        | norm => exact ih _ _ _ e
        | exit i => exact e
        | ret => exact e
    | cond c x y =>
      rw [evCode] at e ⊢
      split at e
      · rename_i t hc
        cases t with
        | true => exact ih _ _ _ e
        | false => exact ih _ _ _ e
      · cases e
    | block id c =>
      rw [evCode] at e ⊢
      cases hb : evCode C P n c s with
      | none => rw [hb] at e; cases e
      | some q => rw [hb] at e; rw [ih _ _ _ hb]; exact e
    | loop c =>
      rw [evCode] at e ⊢
      cases hb : evCode C P n c (head C.kl c s) with
      | none => rw [hb] at e; cases e
      | some q =>
        rw [hb] at e
        rw [ih _ _ _ hb]
        obtain ⟨e1, s1⟩ := q
        cases e1 with
        | norm => exact ih _ _ _ e
        | exit i => exact e
        | ret => exact e
    | exit i => simpa only [evCode] using e
    | ret => simpa only [evCode] using e
    | scope c => rw [evCode] at e ⊢; exact ih _ _ _ e
    | rangeFunc f ps asg bd =>
      rw [evCode] at e ⊢
      cases hr : rowsA C (evA s.tmps f) ps.size with
      | none => rw [hr] at e; cases e
      | some rows => rw [hr] at e; exact evRows_mono ih _ _ _ _ _ _ e
    | goto l => simp [evCode] at e
    | refuse y => simp [evCode] at e
theorem evCode_le {n m : Nat} (h : n ≤ m) {c : Code} {s : St} {r : Ex × St} (e : evCode C P n c s = some r) : evCode C P m c s = some r := by
  obtain ⟨d, rfl⟩ : ∃ d, m = n + d := ⟨m - n, by omega⟩
  induction d with
  | zero => exact e
  | succ d ih => exact evCode_mono _ _ _ _ (ih (by omega))
theorem evFn_le {n m : Nat} (h : n ≤ m) : CallLe (evFn C (evCode C P n)) (evFn C (evCode C P m)) := evFn_mono fun _ _ _ e => evCode_le h e

/-- Code comes to its end. -/
def Runs (C : Ctx) (P : Program) (c : Code) (s : St) (e : Ex) (s' : St) : Prop := ∃ n, evCode C P n c s = some (e, s')
/-- A function answers. -/
def Fn (C : Ctx) (P : Program) (f : Nat) (args : List AV) (H : List Blk) (r : AV) (H' : List Blk) : Prop := ∃ n, evFn C (evCode C P n) f args H = some (r, H')

theorem Runs.seq {x y : Code} {s s1 s' : St} {e : Ex} (h : Runs C P x s .norm s1) (k : Runs C P y s1 e s') : Runs C P (.seq x y) s e s' := by
  obtain ⟨n, h⟩ := h
  obtain ⟨m, k⟩ := k
  refine ⟨max n m + 1, ?_⟩
  rw [evCode, evCode_le (Nat.le_max_left n m) h]
  exact evCode_le (Nat.le_max_right n m) k
theorem Runs.seq_out {x y : Code} {s s' : St} {e : Ex} (h : Runs C P x s e s') (he : e ≠ .norm) : Runs C P (.seq x y) s e s' := by
  obtain ⟨n, h⟩ := h
  refine ⟨n + 1, ?_⟩
  rw [evCode, h]
  cases e <;> first | rfl | exact absurd rfl he
theorem Runs.cond {c : Operand} {x y : Code} {s s' : St} {e : Ex} {b : Bool} (hc : evA s.tmps c = .v (.bool b)) (h : Runs C P (if b then x else y) s e s') : Runs C P (.cond c x y) s e s' := by
  obtain ⟨n, h⟩ := h
  refine ⟨n + 1, ?_⟩
  rw [evCode, hc]
  cases b <;> exact h
theorem Runs.block {id : Nat} {c : Code} {s s' : St} {e : Ex} (h : Runs C P c s e s') : Runs C P (.block id c) s (match e with | .exit i => if i = id then .norm else .exit i | e => e) s' := by
  obtain ⟨n, h⟩ := h
  refine ⟨n + 1, ?_⟩
  rw [evCode, h]
  cases e with
  | exit i => simp only; split <;> rfl
  | norm => rfl
  | ret => rfl
theorem Runs.scope {c : Code} {s s' : St} {e : Ex} (h : Runs C P c s e s') : Runs C P (.scope c) s e s' := by
  obtain ⟨n, h⟩ := h
  exact ⟨n + 1, by rw [evCode]; exact h⟩
/-- A loop from a state at its head on. -/
def LRuns (C : Ctx) (P : Program) (c : Code) (t : St) (e : Ex) (s' : St) : Prop := ∃ n, (match evCode C P n c t with
  | some (.norm, s1) => evCode C P n (.loop c) (clean (keepN C.kl c t.H.length s1) s1)
  | some (.exit i, s1) => some (.exit i, leave C.kl c t.H.length s1)
  | some (.ret, s1) => some (.ret, leave C.kl c t.H.length s1)
  | none => none) = some (e, s')
theorem renG_len (base : Nat) (H : List Blk) : ∀ (k : Nat) (l : List Blk), (renG base H k l).length = l.length
  | _, [] => rfl
  | k, b :: r => by rw [renG, List.length_cons, renG_len base H (k + 1) r, List.length_cons]
theorem head_len (kl : List (List Nat × List Nat × List Nat)) (c : Code) (s : St) : (head kl c s).H.length = s.H.length := by
  show (clean s.H.length s).H.length = _
  unfold clean clean0
  split
  · rw [renG_len, List.length_take]; omega
  · rfl
theorem LRuns.runs {c : Code} {s s' : St} {e : Ex} (h : LRuns C P c (head C.kl c s) e s') : Runs C P (.loop c) s e s' := by
  obtain ⟨n, h⟩ := h
  rw [head_len] at h
  exact ⟨n + 1, by rw [evCode]; exact h⟩
theorem LRuns.again {c : Code} {t s1 s' : St} {e : Ex} (h : Runs C P c t .norm s1) (k : LRuns C P c (head C.kl c (clean (keepN C.kl c t.H.length s1) s1)) e s') : LRuns C P c t e s' := by
  obtain ⟨n, h⟩ := h
  obtain ⟨m, k⟩ := k.runs
  refine ⟨max n m, ?_⟩
  rw [evCode_le (Nat.le_max_left n m) h]
  exact evCode_le (Nat.le_max_right n m) k
theorem LRuns.out {c : Code} {t s' : St} {e : Ex} (h : Runs C P c t e s') (he : e ≠ .norm) : LRuns C P c t e (leave C.kl c t.H.length s') := by
  obtain ⟨n, h⟩ := h
  refine ⟨n, ?_⟩
  rw [h]
  cases e <;> first | rfl | exact absurd rfl he
/-- Rounds of a loop over a function. -/
def RRuns (C : Ctx) (P : Program) (ps : List Nat) (asg body : Code) (rows : List (List AV)) (s : St) (e : Ex) (s' : St) : Prop := ∃ n, evRows (evCode C P n) ps asg body rows s = some (e, s')
theorem RRuns.nil {ps : List Nat} {asg body : Code} {s : St} : RRuns C P ps asg body [] s .norm s := ⟨0, rfl⟩
theorem evRows_le {n m : Nat} (h : n ≤ m) {ps : List Nat} {asg body : Code} {rows : List (List AV)} {s : St} {r : Ex × St} (e : evRows (evCode C P n) ps asg body rows s = some r) : evRows (evCode C P m) ps asg body rows s = some r :=
  evRows_mono (fun _ _ _ q => evCode_le h q) _ _ _ _ _ _ e
theorem RRuns.cons {ps : List Nat} {asg body : Code} {row : List AV} {rows : List (List AV)} {s s1 s2 s' : St} {e : Ex} (h1 : Runs C P asg ⟨setPs s.tmps ps row, s.H, s.H.length⟩ .norm s1) (h2 : Runs C P body s1 .norm s2)
    (k : RRuns C P ps asg body rows (clean s.H.length ⟨s.tmps, s2.H, s.base⟩) e s') : RRuns C P ps asg body (row :: rows) s e s' := by
  obtain ⟨a, h1⟩ := h1
  obtain ⟨b, h2⟩ := h2
  obtain ⟨c, k⟩ := k
  refine ⟨max a (max b c), ?_⟩
  rw [evRows, evCode_le (Nat.le_max_left a _) h1]
  simp only
  rw [evCode_le (Nat.le_trans (Nat.le_max_left b c) (Nat.le_max_right a _)) h2]
  exact evRows_le (Nat.le_trans (Nat.le_max_right b c) (Nat.le_max_right a _)) k
theorem RRuns.out {ps : List Nat} {asg body : Code} {row : List AV} {rows : List (List AV)} {s s1 s2 : St} {e : Ex} (h1 : Runs C P asg ⟨setPs s.tmps ps row, s.H, s.H.length⟩ .norm s1) (h2 : Runs C P body s1 e s2) (he : e ≠ .norm) :
    RRuns C P ps asg body (row :: rows) s e (clean s.H.length ⟨s.tmps, s2.H, s.base⟩) := by
  obtain ⟨a, h1⟩ := h1
  obtain ⟨b, h2⟩ := h2
  refine ⟨max a b, ?_⟩
  rw [evRows, evCode_le (Nat.le_max_left a b) h1]
  simp only
  rw [evCode_le (Nat.le_max_right a b) h2]
  cases e <;> first | rfl | exact absurd rfl he
/-- The parts of a loop over a function. -/
def rgG : Code → Operand
  | .rangeFunc g _ _ _ => g
  | _ => .tmp 0
def rgP : Code → List Nat
  | .rangeFunc _ ps _ _ => ps.toList
  | _ => []
def rgA : Code → Code
  | .rangeFunc _ _ a _ => a
  | _ => .skip
def rgB : Code → Code
  | .rangeFunc _ _ _ b => b
  | _ => .skip
/-- A loop over a function, what it goes over told. -/
def GR (C : Ctx) (P : Program) (c : Code) (x : AV) (st : St) (e : Ex) (s' : St) : Prop := ∃ rows, rowsA C x (rgP c).length = some rows ∧ RRuns C P (rgP c) (rgA c) (rgB c) rows st e s'
theorem GR.runs {g : Operand} {ps : Array Tmp} {asg body : Code} {s s' : St} {e : Ex} (h : GR C P (.rangeFunc g ps asg body) (evA s.tmps g) (clean s.H.length s) e s') : Runs C P (.rangeFunc g ps asg body) s e s' := by
  obtain ⟨rows, hr, n, hn⟩ := h
  refine ⟨n + 1, ?_⟩
  rw [evCode, show ps.size = (rgP (.rangeFunc g ps asg body)).length from (Array.length_toList).symm, hr]
  exact hn
end Go.Proofs.Ytkifbcjmmkbilaa.Av
