/- Ways through code and functions: what is told is enough for the code to come to its end. -/
import Derived.Test.YtkifbcjmmkbilaaAvP
set_option linter.unusedVariables false
set_option linter.unusedSimpArgs false
namespace Go.Proofs.Ytkifbcjmmkbilaa.Av
open Go Go.RowKit
variable {P : Program} {C : Ctx}

/-- Is an operation wanted on this way? Its guard's slot then holds what was told. -/
def wantP (ops : Array Oper) (tmps : List AV) (o : Oper) (os : List Or) : Rs (Bool × List AV) :=
  match o.guard with
  | none => .ok (true, tmps) os []
  | some (j, b) => match (ops[j]?).bind (·.dst) with
    | some d => match tmps.getD d .any with
      | .v (.bool t) => match os with
        | .t x :: os' => .ok (x == b, tmps.set d (.v (.bool x))) os' [t = x]
        | _ => .no (.test t)
      | .v (.tuple _) => .ok (false, tmps) os []
      | _ => .no (.op o tmps [])
    | none => .no (.op o tmps [])
theorem set_getD {l : List AV} {d : Nat} {x y : AV} (h : l.getD d x = y) (hx : y ≠ x) : l.set d y = l := by
  apply List.ext_getElem?
  intro i
  rw [List.getElem?_set]
  split
  · rename_i hd
    subst hd
    rw [List.getD_eq_getElem?_getD] at h
    cases hl : l[d]? with
    | none => rw [hl] at h; exact absurd h.symm hx
    | some z =>
      rw [hl] at h
      obtain ⟨hl', _⟩ := List.getElem?_eq_some_iff.1 hl
      simp only [hl', if_true]
      exact congrArg some h.symm
  · rfl
theorem wantP_sound {ops : Array Oper} {tmps t' : List AV} {o : Oper} {os os' : List Or} {b : Bool} {ps : List Prop} (e : wantP ops tmps o os = .ok (b, t') os' ps) (h : All ps) : wantA ops tmps o = some b ∧ t' = tmps := by
  unfold wantP at e
  unfold wantA
  split at e
  · rename_i hg
    simp only [Rs.ok.injEq, Prod.mk.injEq] at e
    obtain ⟨⟨rfl, rfl⟩, _, _⟩ := e
    simp only [hg, and_self]
  · rename_i j c hg
    simp only [hg]
    split at e
    · rename_i d hd
      simp only [hd]
      split at e
      · rename_i t ht
        simp only [ht]
        split at e
        · simp only [Rs.ok.injEq, Prod.mk.injEq] at e
          obtain ⟨⟨rfl, rfl⟩, _, rfl⟩ := e
          have := h.head
          subst this
          exact ⟨rfl, set_getD ht (fun q => by cases q)⟩
        · cases e
      · rename_i us ht
        simp only [Rs.ok.injEq, Prod.mk.injEq] at e
        obtain ⟨⟨rfl, rfl⟩, _, _⟩ := e
        simp only [ht, and_self]
      · cases e
    · cases e

/-- A row of operations on a way. -/
def opsP (C : Ctx) (P : Program) (call : Nat → List AV → List Blk → List Or → Rs (AV × List Blk)) (ops : Array Oper) : List Oper → St → List Or → Rs St
  | [], s, os => .ok s os []
  | o :: r, s, os => match wantP ops s.tmps o os with
    | .ok (true, t) os1 ps1 => match opP C P call t s.H o os1 with
      | .ok (x, H) os2 ps2 => match opsP C P call ops r ⟨put t o.dst x, H, s.base⟩ os2 with
        | .ok s' os3 ps3 => .ok s' os3 (ps1 ++ (ps2 ++ ps3))
        | .no q => .no q
      | .no q => .no q
    | .ok (false, t) os1 ps1 => match opsP C P call ops r ⟨put t o.dst (.v undef), s.H, s.base⟩ os1 with
      | .ok s' os3 ps3 => .ok s' os3 (ps1 ++ ps3)
      | .no q => .no q
    | .no q => .no q
theorem opsP_sound {call : Nat → List AV → List Blk → List Or → Rs (AV × List Blk)} (hC : CallP C P call) {ops : Array Oper} : ∀ (l : List Oper) (s s' : St) (os os' : List Or) (ps : List Prop), opsP C P call ops l s os = .ok s' os' ps → All ps → ∃ k, ∀ m, k ≤ m → evOps C P (evFn C (evCode C P m)) ops l s = some s'
  | [], s, s', os, os', ps, e, h => by
    simp only [opsP, Rs.ok.injEq] at e
    obtain ⟨rfl, _, _⟩ := e
    exact ⟨0, fun m _ => rfl⟩
  | o :: r, s, s', os, os', ps, e, h => by
    rw [opsP] at e
    split at e
    · rename_i t os1 ps1 hw
      split at e
      · rename_i x H os2 ps2 ho
        split at e
        · rename_i s1 os3 ps3 hr
          simp only [Rs.ok.injEq] at e
          obtain ⟨rfl, rfl, rfl⟩ := e
          obtain ⟨hw1, rfl⟩ := wantP_sound hw h.left
          obtain ⟨k1, h1⟩ := opP_sound hC ho h.right.left
          obtain ⟨k2, h2⟩ := opsP_sound hC r _ _ _ _ _ hr h.right.right
          refine ⟨max k1 k2, fun m hm => ?_⟩
          simp only [evOps, hw1, h1 m (by omega)]
          exact h2 m (by omega)
        · cases e
      · cases e
    · rename_i t os1 ps1 hw
      split at e
      · rename_i s1 os3 ps3 hr
        simp only [Rs.ok.injEq] at e
        obtain ⟨rfl, rfl, rfl⟩ := e
        obtain ⟨hw1, rfl⟩ := wantP_sound hw h.left
        obtain ⟨k2, h2⟩ := opsP_sound hC r _ _ _ _ _ hr h.right
        refine ⟨k2, fun m hm => ?_⟩
        simp only [evOps, hw1]
        exact h2 m hm
      · cases e
    · cases e

/-- Quiet ones in a row. -/
def qsP (C : Ctx) (P : Program) (H : List Blk) (ops : Array Oper) : List Oper → List AV → List Or → Rs (List AV)
  | [], t, os => .ok t os []
  | o :: r, t, os => match wantP ops t o os with
    | .ok (true, t) os1 ps1 => match opQP C P t H o os1 with
      | some (x, os2, ps2) => match qsP C P H ops r (put t o.dst x) os2 with
        | .ok t' os3 ps3 => .ok t' os3 (ps1 ++ (ps2 ++ ps3))
        | .no q => .no q
      | none => .no (.op o t H)
    | .ok (false, t) os1 ps1 => match qsP C P H ops r (put t o.dst (.v undef)) os1 with
      | .ok t' os3 ps3 => .ok t' os3 (ps1 ++ ps3)
      | .no q => .no q
    | .no q => .no q
theorem qsP_sound {H : List Blk} {ops : Array Oper} : ∀ (l : List Oper) (t t' : List AV) (os os' : List Or) (ps : List Prop), qsP C P H ops l t os = .ok t' os' ps → All ps → ∃ xs, evQs C P H ops l t = some (xs, t')
  | [], t, t', os, os', ps, e, h => by
    simp only [qsP, Rs.ok.injEq] at e
    obtain ⟨rfl, _, _⟩ := e
    exact ⟨_, rfl⟩
  | o :: r, t, t', os, os', ps, e, h => by
    rw [qsP] at e
    split at e
    · rename_i t1 os1 ps1 hw
      split at e
      · rename_i x os2 ps2 ho
        split at e
        · rename_i s1 os3 ps3 hr
          simp only [Rs.ok.injEq] at e
          obtain ⟨rfl, rfl, rfl⟩ := e
          obtain ⟨hw1, rfl⟩ := wantP_sound hw h.left
          obtain ⟨xs, hx⟩ := qsP_sound r _ _ _ _ _ hr h.right.right
          exact ⟨x :: xs, by simp only [evQs, hw1, opQP_sound ho h.right.left, hx]⟩
        · cases e
      · cases e
    · rename_i t1 os1 ps1 hw
      split at e
      · rename_i s1 os3 ps3 hr
        simp only [Rs.ok.injEq] at e
        obtain ⟨rfl, rfl, rfl⟩ := e
        obtain ⟨hw1, rfl⟩ := wantP_sound hw h.left
        obtain ⟨xs, hx⟩ := qsP_sound r _ _ _ _ _ hr h.right
        exact ⟨.v undef :: xs, by simp only [evQs, hw1, hx]⟩
      · cases e
    · cases e
/-- One that is not quiet behind quiet ones: the row is not quiet. -/
theorem evQs_none {H : List Blk} {ops : Array Oper} {o : Oper} {rest : List Oper} : ∀ (l : List Oper) (t t' : List AV) (xs : List AV), evQs C P H ops l t = some (xs, t') → wantA ops t' o = some true → evOpQ C P t' H o = none → evQs C P H ops (l ++ o :: rest) t = none
  | [], t, t', xs, e, hw, ho => by
    simp only [evQs, Option.some.injEq, Prod.mk.injEq] at e
    obtain ⟨_, rfl⟩ := e
    show evQs C P H ops (o :: rest) t = none
    simp only [evQs, hw, ho]
  | p :: r, t, t', xs, e, hw, ho => by
    simp only [evQs] at e
    show evQs C P H ops (p :: (r ++ o :: rest)) t = none
    simp only [evQs]
    cases h1 : wantA ops t p with
    | none => rfl
    | some b =>
      rw [h1] at e
      cases b with
      | true =>
        simp only at e ⊢
        cases h2 : evOpQ C P t H p with
        | none => rfl
        | some y =>
          rw [h2] at e
          simp only at e ⊢
          cases h3 : evQs C P H ops r (put t p.dst y) with
          | none => rw [h3] at e; cases e
          | some q =>
            obtain ⟨ys, t1⟩ := q
            rw [h3] at e
            simp only [Option.some.injEq, Prod.mk.injEq] at e
            obtain ⟨_, rfl⟩ := e
            rw [evQs_none r _ _ _ h3 hw ho]
      | false =>
        simp only at e ⊢
        cases h3 : evQs C P H ops r (put t p.dst (.v undef)) with
        | none => rw [h3] at e; cases e
        | some q =>
          obtain ⟨ys, t1⟩ := q
          rw [h3] at e
          simp only [Option.some.injEq, Prod.mk.injEq] at e
          obtain ⟨_, rfl⟩ := e
          rw [evQs_none r _ _ _ h3 hw ho]

theorem quietOp_sound {tmps : List AV} {H : List Blk} {o : Oper} (h : quietOp C tmps o = false) : evOpQ C P tmps H o = none := by
  unfold quietOp at h
  split at h <;> first | cases h; done | (rename_i ho; simp only [evOpQ, ho]; done) | skip
  rename_i c ho
  split at h
  · rename_i hc; simp only [evOpQ, ho, hc]
  · rename_i f hc
    split at h
    · rename_i n caps hf
      have : C.m n = none := by cases hm : C.m n with | none => rfl | some _ => rw [hm] at h; cases h
      simp only [evOpQ, ho, hc, hf, callMA_none this]
    · cases h
  · cases h

/-- A drawn region that writes, in the text's order. -/
def dP (C : Ctx) (P : Program) (call : Nat → List AV → List Blk → List Or → Rs (AV × List Blk)) (ops : Array Oper) (f : Option Nat) (ck : List Blk → Bool) : Nat → List Oper → Ds → List Or → Rs Ds
  | _, [], d, os => .ok d os []
  | k, o :: r, d, os => match wantP ops d.tmps o os with
    | .ok (true, t) os1 ps1 => match quietOp C [] o with
      | true => match opQP C P t (d.q (waitsF C ops.toList k o)) o os1 with
        | some (x, os2, ps2) => match ck d.H && okF C ops k o d.tmps with
          | true => match dP C P call ops f ck (k + 1) r ⟨put t o.dst x, d.H, d.pre⟩ os2 with
            | .ok d' os3 ps3 => .ok d' os3 (ps1 ++ (ps2 ++ ps3))
            | .no q => .no q
          | false => .no .draw
        | none => .no (.op o t d.H)
      | false => match opP C P call t d.H o os1 with
        | .ok (x, H') os2 ps2 => match ck H' && okF C ops k o d.tmps with
          | true => match dP C P call ops f ck (k + 1) r ⟨put t o.dst x, H', if f == some k then some d.H else none⟩ os2 with
            | .ok d' os3 ps3 => .ok d' os3 (ps1 ++ (ps2 ++ ps3))
            | .no q => .no q
          | false => .no .draw
        | .no q => .no q
    | .ok (false, t) os1 ps1 => match ck d.H && okF C ops k o d.tmps with
      | true => match dP C P call ops f ck (k + 1) r ⟨put t o.dst (.v undef), d.H, if quietOp C [] o then d.pre else none⟩ os1 with
        | .ok d' os3 ps3 => .ok d' os3 (ps1 ++ ps3)
        | .no q => .no q
      | false => .no .draw
    | .no q => .no q
theorem dP_sound {call : Nat → List AV → List Blk → List Or → Rs (AV × List Blk)} (hC : CallP C P call) {ops : Array Oper} {ck : List Blk → Bool} : ∀ (l : List Oper) (k : Nat) (d d' : Ds) (os os' : List Or) (ps : List Prop), dP C P call ops (floatAt C ops.toList) ck k l d os = .ok d' os' ps → All ps → ∃ n, ∀ m, n ≤ m → evD C P (evFn C (evCode C P m)) ops ck k l d = some d'
  | [], k, d, d', os, os', ps, e, h => by
    simp only [dP, Rs.ok.injEq] at e
    obtain ⟨rfl, _, _⟩ := e
    exact ⟨0, fun m _ => rfl⟩
  | o :: r, k, d, d', os, os', ps, e, h => by
    rw [dP] at e
    split at e
    · rename_i t os1 ps1 hw
      split at e
      · rename_i hq
        split at e
        · rename_i x os2 ps2 ho
          split at e
          · rename_i hck
            split at e
            · rename_i d1 os3 ps3 hr
              simp only [Rs.ok.injEq] at e
              obtain ⟨rfl, rfl, rfl⟩ := e
              obtain ⟨hw1, rfl⟩ := wantP_sound hw h.left
              obtain ⟨n, hn⟩ := dP_sound hC r _ _ _ _ _ _ hr h.right.right
              refine ⟨n, fun m hm => ?_⟩
              simp only [evD, stD, hw1, hq, opQP_sound ho h.right.left, hck]
              exact hn m hm
            · cases e
          · cases e
        · cases e
      · rename_i hq
        split at e
        · rename_i x H' os2 ps2 ho
          split at e
          · rename_i hck
            split at e
            · rename_i d1 os3 ps3 hr
              simp only [Rs.ok.injEq] at e
              obtain ⟨rfl, rfl, rfl⟩ := e
              obtain ⟨hw1, rfl⟩ := wantP_sound hw h.left
              obtain ⟨n1, h1⟩ := opP_sound hC ho h.right.left
              obtain ⟨n, hn⟩ := dP_sound hC r _ _ _ _ _ _ hr h.right.right
              refine ⟨max n1 n, fun m hm => ?_⟩
              simp only [evD, stD, hw1, hq, h1 m (by omega), hck]
              exact hn m (by omega)
            · cases e
          · cases e
        · cases e
    · rename_i t os1 ps1 hw
      split at e
      · rename_i hck
        split at e
        · rename_i d1 os3 ps3 hr
          simp only [Rs.ok.injEq] at e
          obtain ⟨rfl, rfl, rfl⟩ := e
          obtain ⟨hw1, rfl⟩ := wantP_sound hw h.left
          obtain ⟨n, hn⟩ := dP_sound hC r _ _ _ _ _ _ hr h.right
          refine ⟨n, fun m hm => ?_⟩
          simp only [evD, stD, hw1, hck]
          exact hn m hm
        · cases e
      · cases e
    · cases e
/-- A drawn region on a way. -/
def drawP (C : Ctx) (P : Program) (call : Nat → List AV → List Blk → List Or → Rs (AV × List Blk)) (ops : Array Oper) (s : St) (os : List Or) : Rs St :=
  match oldOk C ops.toList with
  | false => match newOk C ops.toList with
    | false => match twoOk C ops.toList with
      | false => .no .draw
      | true => match qsP C P s.H ops (ops.toList.take (cutAt C ops.toList)) s.tmps os with
        | .ok t os1 ps1 => match hbAt s.H.length t (ops.toList.take (cutAt C ops.toList)) with
          | true => match opsP C P call ops (ops.toList.drop (cutAt C ops.toList)) ⟨t, s.H, s.base⟩ os1 with
            | .ok s' os2 ps2 => .ok s' os2 (ps1 ++ ps2)
            | .no q => .no q
          | false => .no .draw
        | .no q => .no q
    | true => match ckOf C P ops.toList s.tmps s.H s.H with
      | true => match dP C P call ops (floatAt C ops.toList) (ckOf C P ops.toList s.tmps s.H) 0 ops.toList ⟨s.tmps, s.H, none⟩ os with
        | .ok d os' ps => .ok ⟨d.tmps, d.H, s.base⟩ os' ps
        | .no q => .no q
      | false => .no .draw
  | true => match ops.toList.drop (cutAt C ops.toList) with
    | [] => match qsP C P s.H ops ops.toList s.tmps os with
      | .ok t os' ps => .ok ⟨t, s.H, s.base⟩ os' ps
      | .no q => .no q
    | o :: r => match o.guard with
        | some _ => .no .draw
        | none => match qsP C P s.H ops (ops.toList.take (cutAt C ops.toList)) s.tmps os with
          | .ok t os1 ps1 => match opsP C P call ops (o :: r) ⟨t, s.H, s.base⟩ os1 with
            | .ok s' os2 ps2 => .ok s' os2 (ps1 ++ ps2)
            | .no q => .no q
          | .no q => .no q
theorem cutAt_head {C : Ctx} {o : Oper} {r : List Oper} : ∀ l : List Oper, l.drop (cutAt C l) = o :: r → quietOp C [] o = false
  | [], h => by simp [cutAt] at h
  | p :: l, h => by
    unfold cutAt at h
    cases hq : quietOp C [] p with
    | true => rw [hq] at h; exact cutAt_head l (by simpa using h)
    | false => rw [hq] at h; simp at h; rw [← h.1]; exact hq
theorem quietOp_nil {tmps : List AV} {o : Oper} (h : quietOp C [] o = false) : quietOp C tmps o = false := by
  unfold quietOp at h
  split at h <;> first | (rename_i ho; simp only [quietOp, ho]; done) | skip
  · rename_i c ho
    split at h
    · rename_i hc; simp only [quietOp, ho, hc]
    · rename_i f hc
      simp only [quietOp, ho, hc]
      cases f with
      | tmp t => simp [evA] at h
      | const _ => simp [evA] at h
      | global _ => simp [evA] at h
      | func n => exact h
    · cases h
  · cases h
theorem drawP_sound {call : Nat → List AV → List Blk → List Or → Rs (AV × List Blk)} (hC : CallP C P call) {ops : Array Oper} {s s' : St} {os os' : List Or} {ps : List Prop} (e : drawP C P call ops s os = .ok s' os' ps) (h : All ps) : ∃ k, ∀ m, k ≤ m → evDraw C P (evFn C (evCode C P m)) ops s = some s' := by
  unfold drawP at e
  split at e
  · rename_i hold
    split at e
    · rename_i hnew
      split at e
      · cases e
      · rename_i htwo
        split at e
        · rename_i t os1 ps1 hq
          split at e
          · rename_i hhb
            split at e
            · rename_i s1 os2 ps2 hr
              simp only [Rs.ok.injEq] at e
              obtain ⟨rfl, rfl, rfl⟩ := e
              obtain ⟨xs, hx⟩ := qsP_sound _ _ _ _ _ _ hq h.left
              obtain ⟨k, hk⟩ := opsP_sound hC _ _ _ _ _ _ hr h.right
              refine ⟨k, fun m hm => ?_⟩
              simp only [evDraw, hold, hnew, htwo, hx, hhb]
              exact hk m hm
            · cases e
          · cases e
        · cases e
    · rename_i hnew
      split at e
      · rename_i hck
        split at e
        · rename_i d os1 ps1 hd
          simp only [Rs.ok.injEq] at e
          obtain ⟨rfl, rfl, rfl⟩ := e
          obtain ⟨n, hn⟩ := dP_sound hC _ _ _ _ _ _ _ hd h
          refine ⟨n, fun m hm => ?_⟩
          simp only [evDraw, hold, hnew, hck, hn m hm]
        · cases e
      · cases e
  · rename_i hd
    split at e
    · split at e
      · rename_i t os1 ps1 hq
        simp only [Rs.ok.injEq] at e
        obtain ⟨rfl, rfl, rfl⟩ := e
        obtain ⟨xs, hx⟩ := qsP_sound _ _ _ _ _ _ hq h
        refine ⟨0, fun m _ => ?_⟩
        simp only [evDraw, hd, hx]
      · cases e
    · rename_i o r hl
      split at e
      · cases e
      · rename_i hg
        split at e
        · rename_i t os1 ps1 hq
          split at e
          · rename_i s1 os2 ps2 hr
            simp only [Rs.ok.injEq] at e
            obtain ⟨rfl, rfl, rfl⟩ := e
            obtain ⟨xs, hx⟩ := qsP_sound _ _ _ _ _ _ hq h.left
            obtain ⟨k, hk⟩ := opsP_sound hC _ _ _ _ _ _ hr h.right
            have hall : evQs C P s.H ops ops.toList s.tmps = none := by
              have := evQs_none (rest := r) _ _ _ _ hx (by simp only [wantA, hg]) (quietOp_sound (quietOp_nil (cutAt_head _ hl)))
              rwa [← hl, List.take_append_drop] at this
            refine ⟨k, fun m hm => ?_⟩
            simp only [evDraw, hd, hall, hx]
            rw [hl]
            exact hk m hm
          · cases e
        · cases e

/-- A function on a way, by a way to run code. -/
def fnP (C : Ctx) (run : Code → St → List Or → Rs (Ex × St)) (f : Nat) (args : List AV) (H : List Blk) (os : List Or) : Rs (AV × List Blk) :=
  match C.fn f with
  | none => .no (.fn f)
  | some fn => match fn.body with
    | none => .no (.fn f)
    | some c => match run c ⟨args ++ List.replicate (fn.ntmps - args.length) .any, H, H.length⟩ os with
      | .ok (.norm, s) os' ps | .ok (.ret, s) os' ps => match resA C s.tmps s.H fn.results.toList with
        | some [x] => .ok (x, s.H) os' ps
        | some xs => .ok (.tup xs, s.H) os' ps
        | none => .no (.fn f)
      | .ok (.exit _, _) _ _ => .no (.fn f)
      | .no q => .no q

/-- Code on a way. -/
def codeP (C : Ctx) (P : Program) : Nat → Code → St → List Or → Rs (Ex × St)
  | 0, _, _, _ => .no .out
  | n + 1, .skip, s, os => .ok (.norm, s) os []
  | n + 1, .label _, s, os => .ok (.norm, s) os []
  | n + 1, .region _ ops false, s, os => match opsP C P (fnP C (codeP C P n)) ops ops.toList (fzS C ops s) os with
    | .ok s' os' ps => .ok (.norm, s') os' ps
    | .no q => .no q
  | n + 1, .region _ ops true, s, os => match drawP C P (fnP C (codeP C P n)) ops (fzS C ops s) os with
    | .ok s' os' ps => .ok (.norm, s') os' ps
    | .no q => .no q
  | n + 1, .seq a b, s, os => match os with
    | .j e s1 :: os' => match e with
      | .norm => match codeP C P n b s1 os' with
        | .ok r os2 ps2 => .ok r os2 (Runs C P a s .norm s1 :: ps2)
        | .no q => .no q
      | e => .ok (e, s1) os' [Runs C P a s e s1]
    | .k :: os' => match codeP C P n a s os' with
      | .ok (.norm, s') os1 ps1 => match codeP C P n b s' os1 with
        | .ok r os2 ps2 => .ok r os2 (ps1 ++ ps2)
        | .no q => .no q
      | r => r
    | os => match codeP C P n a s os with
      | .ok (.norm, s') os1 ps1 => match codeP C P n b s' os1 with
        | .ok r os2 ps2 => .ok r os2 (ps1 ++ ps2)
        | .no q => .no q
      | r => r
  | n + 1, .cond c x y, s, os => match evA s.tmps c with
    | .v (.bool t) => match os with
      | .t true :: os' => match codeP C P n x s os' with
        | .ok r os1 ps => .ok r os1 ((t = true) :: ps)
        | .no q => .no q
      | .t false :: os' => match codeP C P n y s os' with
        | .ok r os1 ps => .ok r os1 ((t = false) :: ps)
        | .no q => .no q
      | _ => .no (.test t)
    | _ => .no .code
  | n + 1, .block id c, s, os => match codeP C P n c s os with
    | .ok (.exit i, s') os1 ps => .ok ((match decide (i = id) with | true => .norm | false => .exit i), s') os1 ps
    | r => r
  | n + 1, .loop c, s, os => match os with
    | .l e s' :: os' => .ok (e, s') os' [LRuns C P c (head C.kl c s) e s']
    | .u :: os' => match codeP C P n c (head C.kl c s) os' with
      | .ok (.norm, s1) os1 ps1 => match codeP C P n (.loop c) (clean (keepN C.kl c s.H.length s1) s1) os1 with
        | .ok r os2 ps2 => .ok r os2 (ps1 ++ ps2)
        | .no q => .no q
      | .ok (.exit i, s1) os1 ps1 => .ok (.exit i, leave C.kl c s.H.length s1) os1 ps1
      | .ok (.ret, s1) os1 ps1 => .ok (.ret, leave C.kl c s.H.length s1) os1 ps1
      | .no q => .no q
    | _ => .no (.loop c s)
  | n + 1, .exit id, s, os => .ok (.exit id, s) os []
  | n + 1, .ret, s, os => .ok (.ret, s) os []
  | n + 1, .scope c, s, os => codeP C P n c s os
  | n + 1, .rangeFunc g ps asg body, s, os => match os with
    | .l e s' :: os' => .ok (e, s') os' [GR C P (.rangeFunc g ps asg body) (evA s.tmps g) (clean s.H.length s) e s']
    | _ => .no (.loop (.rangeFunc g ps asg body) s)
  | n + 1, _, _, _ => .no .code

theorem fnP_sound {run : Code → St → List Or → Rs (Ex × St)} (hR : ∀ c s os e s' os' ps, run c s os = .ok (e, s') os' ps → All ps → Runs C P c s e s') : CallP C P (fnP C run) := by
  intro n args H os r H' os' ps h hp
  unfold fnP at h
  split at h
  · cases h
  · rename_i fn hf
    split at h
    · cases h
    · rename_i c hb
      have key : ∀ (e : Ex) (s : St), e = .norm ∨ e = .ret → Runs C P c ⟨args ++ List.replicate (fn.ntmps - args.length) .any, H, H.length⟩ e s → (match resA C s.tmps s.H fn.results.toList with | some [x] => some (x, s.H) | some xs => some (.tup xs, s.H) | none => none) = some (r, H') → Fn C P n args H r H' := by
        rintro e s he ⟨k, hk⟩ hr
        refine ⟨k, ?_⟩
        unfold evFn
        simp only [hf, hb, hk]
        rcases he with rfl | rfl <;> exact hr
      split at h
      · rename_i s os1 ps1 hc
        split at h <;> (try cases h; done) <;>
        · rename_i hr
          simp only [Rs.ok.injEq, Prod.mk.injEq] at h
          obtain ⟨⟨rfl, rfl⟩, rfl, rfl⟩ := h
          exact key _ _ (.inl rfl) (hR _ _ _ _ _ _ _ hc hp) (by simp only [hr])
      · rename_i s os1 ps1 hc
        split at h <;> (try cases h; done) <;>
        · rename_i hr
          simp only [Rs.ok.injEq, Prod.mk.injEq] at h
          obtain ⟨⟨rfl, rfl⟩, rfl, rfl⟩ := h
          exact key _ _ (.inr rfl) (hR _ _ _ _ _ _ _ hc hp) (by simp only [hr])
      · cases h
      · cases h

theorem codeP_sound : ∀ (n : Nat) (c : Code) (s : St) (os : List Or) (e : Ex) (s' : St) (os' : List Or) (ps : List Prop), codeP C P n c s os = .ok (e, s') os' ps → All ps → Runs C P c s e s' := by
  intro n
  induction n with
  | zero => intro c s os e s' os' ps h hp; simp [codeP] at h
  | succ n ih =>
    intro c s os e s' os' ps h hp
    have hC : CallP C P (fnP C (codeP C P n)) := fnP_sound ih
    cases c with
    | skip =>
      simp only [codeP, Rs.ok.injEq, Prod.mk.injEq] at h
      obtain ⟨⟨rfl, rfl⟩, _, _⟩ := h
      exact ⟨1, rfl⟩
    | label l =>
      simp only [codeP, Rs.ok.injEq, Prod.mk.injEq] at h
      obtain ⟨⟨rfl, rfl⟩, _, _⟩ := h
      exact ⟨1, rfl⟩
    | region id ops d =>
      cases d with
      | true =>
        rw [codeP] at h
        split at h
        · rename_i s1 os1 ps1 hd
          simp only [Rs.ok.injEq, Prod.mk.injEq] at h
          obtain ⟨⟨rfl, rfl⟩, rfl, rfl⟩ := h
          obtain ⟨k, hk⟩ := drawP_sound hC hd hp
          exact ⟨k + 1, by rw [evCode, hk k (Nat.le_refl _)]⟩
        · cases h
      | false =>
        rw [codeP] at h
        split at h
        · rename_i s1 os1 ps1 hd
          simp only [Rs.ok.injEq, Prod.mk.injEq] at h
          obtain ⟨⟨rfl, rfl⟩, rfl, rfl⟩ := h
          obtain ⟨k, hk⟩ := opsP_sound hC _ _ _ _ _ _ hd hp
          exact ⟨k + 1, by rw [evCode, hk k (Nat.le_refl _)]⟩
        · cases h
    | seq x y =>
      have old : ∀ os0, (match codeP C P n x s os0 with
          | .ok (.norm, s') os1 ps1 => match codeP C P n y s' os1 with
            | .ok r os2 ps2 => Rs.ok r os2 (ps1 ++ ps2)
            | .no q => .no q
          | r => r) = .ok (e, s') os' ps → Runs C P (.seq x y) s e s' := fun os0 h => by
        split at h
        · rename_i s1 os1 ps1 h1
          split at h
          · rename_i r os2 ps2 h2
            simp only [Rs.ok.injEq] at h
            obtain ⟨rfl, rfl, rfl⟩ := h
            exact Runs.seq (ih _ _ _ _ _ _ _ h1 hp.left) (ih _ _ _ _ _ _ _ h2 hp.right)
          · cases h
        · rename_i hne
          exact Runs.seq_out (ih _ _ _ _ _ _ _ h hp) (fun q => by subst q; exact hne _ _ _ h)
      cases os with
      | nil => rw [codeP] at h; exact old [] h; all_goals (intros; simp_all)
      | cons o os1 =>
        cases o with
        | j e1 s1 =>
          cases e1 with
          | norm =>
            simp only [codeP] at h
            split at h
            · rename_i r os2 ps2 h2
              simp only [Rs.ok.injEq] at h
              obtain ⟨rfl, rfl, rfl⟩ := h
              exact Runs.seq hp.head (ih _ _ _ _ _ _ _ h2 hp.tail)
            · cases h
          | exit i =>
            simp only [codeP, Rs.ok.injEq, Prod.mk.injEq] at h
            obtain ⟨⟨rfl, rfl⟩, rfl, rfl⟩ := h
            exact Runs.seq_out hp.head (fun q => by cases q)
          | ret =>
            simp only [codeP, Rs.ok.injEq, Prod.mk.injEq] at h
            obtain ⟨⟨rfl, rfl⟩, rfl, rfl⟩ := h
            exact Runs.seq_out hp.head (fun q => by cases q)
        | k => rw [codeP] at h; exact old os1 h
        | _ => rw [codeP] at h; exact old _ h; all_goals (intros; simp_all)
    | cond c x y =>
      rw [codeP] at h
      split at h
      · rename_i t hc
        split at h
        · split at h
          · rename_i r os1 ps1 h1
            simp only [Rs.ok.injEq] at h
            obtain ⟨rfl, rfl, rfl⟩ := h
            have ht := hp.head
            subst ht
            exact Runs.cond hc (ih _ _ _ _ _ _ _ h1 hp.tail)
          · cases h
        · split at h
          · rename_i r os1 ps1 h1
            simp only [Rs.ok.injEq] at h
            obtain ⟨rfl, rfl, rfl⟩ := h
            have ht := hp.head
            subst ht
            exact Runs.cond hc (ih _ _ _ _ _ _ _ h1 hp.tail)
          · cases h
        · cases h
      · cases h
    | block id c =>
      rw [codeP] at h
      split at h
      · rename_i i s1 os1 ps1 h1
        simp only [Rs.ok.injEq, Prod.mk.injEq] at h
        obtain ⟨⟨rfl, rfl⟩, rfl, rfl⟩ := h
        have := Runs.block (id := id) (ih _ _ _ _ _ _ _ h1 hp)
        simp only at this
        by_cases hi : i = id
        · simp only [hi, if_true] at this; simpa [hi] using this
        · simp only [hi, if_false] at this; simpa [hi] using this
      · rename_i hne
        have := Runs.block (id := id) (ih _ _ _ _ _ _ _ h hp)
        cases e with
        | exit i => exact absurd h (hne _ _ _ _)
        | norm => exact this
        | ret => exact this
    | loop c =>
      cases os with
      | nil => simp [codeP] at h
      | cons o os =>
        cases o with
        | l =>
          simp only [codeP, Rs.ok.injEq, Prod.mk.injEq] at h
          obtain ⟨⟨rfl, rfl⟩, rfl, rfl⟩ := h
          exact LRuns.runs hp.head
        | u =>
          simp only [codeP] at h
          split at h
          · rename_i s1 os1 ps1 h1
            split at h
            · rename_i r os2 ps2 h2
              simp only [Rs.ok.injEq] at h
              obtain ⟨rfl, rfl, rfl⟩ := h
              obtain ⟨a, ha⟩ := ih _ _ _ _ _ _ _ h1 hp.left
              obtain ⟨b, hb⟩ := ih _ _ _ _ _ _ _ h2 hp.right
              refine ⟨max a b + 1, ?_⟩
              rw [evCode, evCode_le (Nat.le_max_left a b) ha]
              exact evCode_le (Nat.le_max_right a b) hb
            · cases h
          · rename_i i s1 os1 ps1 h1
            simp only [Rs.ok.injEq, Prod.mk.injEq] at h
            obtain ⟨⟨rfl, rfl⟩, rfl, rfl⟩ := h
            obtain ⟨a, ha⟩ := ih _ _ _ _ _ _ _ h1 hp
            exact ⟨a + 1, by rw [evCode, ha]⟩
          · rename_i s1 os1 ps1 h1
            simp only [Rs.ok.injEq, Prod.mk.injEq] at h
            obtain ⟨⟨rfl, rfl⟩, rfl, rfl⟩ := h
            obtain ⟨a, ha⟩ := ih _ _ _ _ _ _ _ h1 hp
            exact ⟨a + 1, by rw [evCode, ha]⟩
          · cases h
        | _ => simp only [codeP, reduceCtorEq] at h
    | exit i =>
      simp only [codeP, Rs.ok.injEq, Prod.mk.injEq] at h
      obtain ⟨⟨rfl, rfl⟩, _, _⟩ := h
      exact ⟨1, rfl⟩
    | ret =>
      simp only [codeP, Rs.ok.injEq, Prod.mk.injEq] at h
      obtain ⟨⟨rfl, rfl⟩, _, _⟩ := h
      exact ⟨1, rfl⟩
    | scope c => rw [codeP] at h; exact Runs.scope (ih _ _ _ _ _ _ _ h hp)
    | rangeFunc f qs asg bd =>
      cases os with
      | nil => simp [codeP] at h
      | cons o os =>
        cases o with
        | l =>
          simp only [codeP, Rs.ok.injEq, Prod.mk.injEq] at h
          obtain ⟨⟨rfl, rfl⟩, rfl, rfl⟩ := h
          exact GR.runs hp.head
        | _ => simp only [codeP, reduceCtorEq] at h
    | goto l => simp [codeP] at h
    | refuse y => simp [codeP] at h

/-- A function by a way. -/
theorem Fn.way {n f : Nat} {args : List AV} {H H' : List Blk} {os : List Or} {r : AV} {ps : List Prop} (e : fnP C (codeP C P n) f args H os = .ok (r, H') [] ps) (h : All ps) : Fn C P f args H r H' :=
  fnP_sound (codeP_sound n) _ _ _ _ _ _ _ _ e h
theorem Runs.way {n : Nat} {c : Code} {s s' : St} {os : List Or} {e : Ex} {ps : List Prop} (q : codeP C P n c s os = .ok (e, s') [] ps) (h : All ps) : Runs C P c s e s' :=
  codeP_sound n _ _ _ _ _ _ _ q h
end Go.Proofs.Ytkifbcjmmkbilaa.Av
