/- Functions as wholes: what a function answers, taken as a summary where it is called. -/
import Derived.Test.YtkifbcjmmkbilaaAvW
import Derived.IntWalk
set_option linter.unusedVariables false
set_option linter.unusedSimpArgs false
namespace Go.Proofs.Ytkifbcjmmkbilaa.Av
open Go Go.RowKit
variable {P : Program} {C : Ctx} {G : World → Prop}

theorem Fn.unique {f : Nat} {args : List AV} {H H1 H2 : List Blk} {r1 r2 : AV} (h : Fn C P f args H r1 H1) (k : Fn C P f args H r2 H2) : r1 = r2 ∧ H1 = H2 := by
  obtain ⟨n, h⟩ := h
  obtain ⟨m, k⟩ := k
  have a := evFn_le (Nat.le_max_left n m) _ _ _ _ h
  have b := evFn_le (Nat.le_max_right n m) _ _ _ _ k
  rw [a] at b
  simpa using b

open Classical in
/-- What a function answers, whatever it takes. -/
noncomputable def whole (C : Ctx) (P : Program) (f : Nat) (args : List AV) : Option (AV × List Blk) :=
  if h : ∃ r : AV × List Blk, Fn C P f args [] r.1 r.2 then some (Classical.choose h) else none
theorem whole_eq {f : Nat} {args : List AV} {r : AV} {H : List Blk} (h : Fn C P f args [] r H) : whole C P f args = some (r, H) := by
  have hx : ∃ r : AV × List Blk, Fn C P f args [] r.1 r.2 := ⟨(r, H), h⟩
  unfold whole
  rw [dif_pos hx]
  have := (Classical.choose_spec hx).unique h
  exact congrArg some (Prod.ext this.1 this.2)
theorem whole_fn {f : Nat} {args : List AV} {r : AV} {H : List Blk} (h : whole C P f args = some (r, H)) : Fn C P f args [] r H := by
  unfold whole at h
  split at h
  · rename_i hx
    have := Classical.choose_spec hx
    rw [Option.some.inj h] at this
    exact this
  · cases h
theorem whole_models (hM : P.follows .mixedOrders = true) (hK : CtxOk P C G) (hG : ∀ w w', G w → Below w.heap.size w w' → G w') (f : Nat) : Models P G f (whole C P f) := by
  intro S w as vs r Hr hvs himm hg e
  obtain ⟨n, hn⟩ := whole_fn e
  exact models_of hM hK hG n f S w as vs r Hr hvs himm hg hn

/-- By value. -/
noncomputable def wholeV (C : Ctx) (P : Program) (f : Nat) (args : List AV) : Option (AV × List Blk) :=
  match whole C P f args with
  | some (r, H) => match AV.val H r with
    | some y => some (y, [])
    | none => none
  | none => none
/-- A list of its own. -/
noncomputable def wholeO (C : Ctx) (P : Program) (f : Nat) (args : List AV) : Option (AV × List Blk) :=
  match whole C P f args with
  | some (.own id ver, H) => match H[id]? with
    | some (.grow e sz v true es) => if ver = v then some (.own 0 0, [.grow e sz 0 true es]) else none
    | _ => none
  | _ => none
/-- What a function answers, by value; a list of its own. -/
def FnV (C : Ctx) (P : Program) (f : Nat) (args : List AV) (y : AV) : Prop := ∃ r H, Fn C P f args [] r H ∧ AV.val H r = some y
def FnO (C : Ctx) (P : Program) (f : Nat) (args : List AV) (e sz : Nat) (es : List (List AV)) : Prop := ∃ id ver H, Fn C P f args [] (.own id ver) H ∧ H[id]? = some (.grow e sz ver true es)
theorem FnV.eq {f : Nat} {args : List AV} {y : AV} (h : FnV C P f args y) : wholeV C P f args = some (y, []) := by
  obtain ⟨r, H, h, hv⟩ := h
  simp only [wholeV, whole_eq h, hv]
theorem FnO.eq {f : Nat} {args : List AV} {e sz : Nat} {es : List (List AV)} (h : FnO C P f args e sz es) : wholeO C P f args = some (.own 0 0, [.grow e sz 0 true es]) := by
  obtain ⟨id, ver, H, h, hv⟩ := h
  simp only [wholeO, whole_eq h, hv, if_true]
theorem FnV.of {f : Nat} {args : List AV} {r y : AV} {H : List Blk} (h : Fn C P f args [] r H) (hv : AV.val H r = some y) : FnV C P f args y := ⟨r, H, h, hv⟩
theorem FnO.of {f : Nat} {args : List AV} {id ver e sz : Nat} {es : List (List AV)} {H : List Blk} (h : Fn C P f args [] (.own id ver) H) (hv : H[id]? = some (.grow e sz ver true es)) : FnO C P f args e sz es := ⟨id, ver, H, h, hv⟩
theorem FnV.unique {f : Nat} {args : List AV} {y z : AV} (h : FnV C P f args y) (k : FnV C P f args z) : y = z := by
  have := h.eq.symm.trans k.eq
  simpa using this

theorem wholeV_models (hM : P.follows .mixedOrders = true) (hK : CtxOk P C G) (hG : ∀ w w', G w → Below w.heap.size w w' → G w') (f : Nat) : Models P G f (wholeV C P f) := by
  intro S w as vs r Hr hvs himm hg e
  unfold wholeV at e
  split at e
  · rename_i r0 H0 hw
    split at e
    · rename_i y hy
      simp only [Option.some.injEq, Prod.mk.injEq] at e
      obtain ⟨rfl, rfl⟩ := e
      refine (whole_models hM hK hG f S w as vs r0 H0 hvs himm hg hw).mono ?_
      rintro e w' ⟨u, S', plr, rfl, hS, hnew, hW, hR⟩
      refine ⟨u, lend S' H0 plr w', fun _ => none, rfl, Sto.le_trans hS (lend_le hW), fun a v e hb => ?_, ⟨⟨fun k cs e => by simp at e, fun k e sz ver bv es q => by simp at q, fun k k' b l => by obtain ⟨⟨x, hx, _⟩, _⟩ := l; simp at hx, fun a u e k l => by obtain ⟨⟨x, hx, _⟩, _⟩ := l; simp at hx⟩, lend_imm hW, hW.below, hW.base, hW.g, hW.keep, Avd.none _ _ _ _, fun _ h => h.elim⟩, .val _ _ (val_rep hW _ hy hR)⟩
      unfold lend at e
      split at e
      · rename_i hl
        obtain ⟨k, l⟩ := hl
        have := (hW.h.lt l).1
        omega
      · exact hnew a v e hb
    · cases e
  · cases e
theorem wholeO_models (hM : P.follows .mixedOrders = true) (hK : CtxOk P C G) (hG : ∀ w w', G w → Below w.heap.size w w' → G w') (f : Nat) : Models P G f (wholeO C P f) := by
  intro S w as vs r Hr hvs himm hg e
  unfold wholeO at e
  split at e
  · rename_i id ver H0 hw
    split at e
    · rename_i e0 sz v es hH
      split at e
      · rename_i hv
        subst hv
        simp only [Option.some.injEq, Prod.mk.injEq] at e
        obtain ⟨rfl, rfl⟩ := e
        refine (whole_models hM hK hG f S w as vs _ H0 hvs himm hg hw).mono ?_
        rintro e w' ⟨u, S', plr, rfl, hS, hnew, hW, hR⟩
        have hl : ∀ k b, live [Blk.grow e0 sz 0 true es] (fun _ => plr id) k b → k = 0 ∧ live H0 plr id b := fun k b ⟨⟨x, hx, hl⟩, hc⟩ => by
          cases k with
          | zero => exact ⟨rfl, ⟨_, hH, trivial⟩, hc⟩
          | succ k => simp at hx
        refine ⟨u, S', fun _ => plr id, rfl, hS, hnew, ⟨⟨fun k cs hk => ?_, fun k e' sz' ver' bv es' hk => ?_, fun k k' b l l' => (hl k b l).1.trans (hl k' b l').1.symm, fun a u ha k l => hW.h.sep a u ha id (hl k _ l).2⟩, hW.imm, hW.below, hW.base, hW.g, hW.keep, Avd.none _ _ _ _, fun _ h => h.elim⟩, ?_⟩
        · cases k <;> simp at hk
        · cases k with
          | succ k => simp at hk
          | zero =>
            simp only [List.getElem?_cons_zero, Option.some.injEq, Blk.grow.injEq] at hk
            obtain ⟨rfl, rfl, rfl, rfl, rfl⟩ := hk
            obtain ⟨a1, a2, a3, a4, xs, a5, a6, a7⟩ := hW.h.grow _ _ _ _ _ _ hH
            exact ⟨a1, a2, a3, a4, xs, a5, (hbs_val _ (hbs_flat _ (a4 rfl)) a6).mono fun x u r => .val _ _ r, a7⟩
        · cases hR with
          | val _ _ r => cases r
          | own _ _ _ hi q k =>
            refine .own _ _ _ (by simp) q fun e' sz' v' bv' es' hk => ?_
            simp only [List.getElem?_cons_zero, Option.some.injEq, Blk.grow.injEq] at hk
            obtain ⟨rfl, rfl, rfl, rfl, rfl⟩ := hk
            exact ⟨Nat.le_refl _, fun _ => (k _ _ _ _ _ hH).2 rfl⟩
      · cases e
    · cases e
  · cases e

/-- The functions of two rows are summaries from here on: by value, and lists of their own. -/
noncomputable def up (C : Ctx) (P : Program) (fs os : List Nat) : Ctx :=
  { C with m := fun f => match fs.contains f && (C.fn f).isSome with
    | true => some (wholeV C P f)
    | false => match os.contains f && (C.fn f).isSome with
      | true => some (wholeO C P f)
      | false => C.m f }
theorem CtxOk.up (hM : P.follows .mixedOrders = true) (hK : CtxOk P C G) (hG : ∀ w w', G w → Below w.heap.size w w' → G w') (fs os : List Nat) : CtxOk P (up C P fs os) G := by
  refine ⟨⟨hK.td.one, hK.td.agg, hK.td.sl, hK.td.conc⟩, fun n m h => ?_, hK.eqs, hK.fn, hK.sq⟩
  simp only [Av.up] at h
  split at h
  · rename_i hc
    obtain rfl := Option.some.inj h
    obtain ⟨fn, hf⟩ := Option.isSome_iff_exists.1 (Bool.and_eq_true_iff.1 hc).2
    exact ⟨wholeV_models hM hK hG n, fn, hK.fn n fn hf⟩
  · split at h
    · rename_i hc
      obtain rfl := Option.some.inj h
      obtain ⟨fn, hf⟩ := Option.isSome_iff_exists.1 (Bool.and_eq_true_iff.1 hc).2
      exact ⟨wholeO_models hM hK hG n, fn, hK.fn n fn hf⟩
    · exact hK.m n m h

/-- A call of a summary. -/
theorem callV {C' : Ctx} {n : Nat} {caps args as as' : List AV} {H : List Blk} {y : AV} (hm : C.m n = some (wholeV C' P n)) (hv : AV.vals H (args ++ caps) = some as') (ha : as' = as) (hf : FnV C' P n as y)
    (hb : (y.flo || AV.hbs 0 (args ++ caps)) = true) : callMA C (.fn n caps) args H = some (y, []) := by
  subst ha
  simp only [callMA, hm, hv, hf.eq]
  rw [if_pos (by simpa using hb)]
theorem callO {C' : Ctx} {n e sz : Nat} {caps args as as' : List AV} {H : List Blk} {es : List (List AV)} (hm : C.m n = some (wholeO C' P n)) (hv : AV.vals H (args ++ caps) = some as') (ha : as' = as) (hf : FnO C' P n as e sz es)
    (hb : (es.all AV.flats || AV.hbs 0 (args ++ caps)) = true) : callMA C (.fn n caps) args H = some (.own 0 0, [.grow e sz 0 true es]) := by
  subst ha
  simp only [callMA, hm, hv, hf.eq]
  rw [if_pos (by simpa [AV.flo, Blk.flat] using hb)]
theorem callM {m : List AV → Option (AV × List Blk)} {n : Nat} {caps args bs bs' : List AV} {H Hr : List Blk} {y : AV} (hm : C.m n = some m) (hv : AV.vals H (args ++ caps) = some bs') (ha : bs' = bs) (hf : m bs = some (y, Hr))
    (hb : ((y.flo && Hr.all Blk.flat) || AV.hbs 0 (args ++ caps)) = true) : callMA C (.fn n caps) args H = some (y, Hr) := by
  subst ha
  simp only [callMA, hm, hv, hf]
  rw [if_pos hb]

theorem callMo {m : List AV → Option (AV × List Blk)} {n : Nat} {caps args bs bs' : List AV} {H Hr : List Blk} {y : AV} (hm : C.m n = some m) (hv : AV.vals H (args ++ caps) = some bs') (ha : bs' = bs) (hf : m bs = some (y, Hr))
    (hb : AV.hbs 0 (args ++ caps) = true) : callMA C (.fn n caps) args H = some (y, Hr) := callM hm hv ha hf (by rw [hb, Bool.or_true])
/-- An element of a list; a list with what stands behind its end. -/
def el {α : Type} [Inhabited α] (l : List α) (i : Nat) : α := l.getD i default
def lstOf {α : Type} [Inhabited α] (sz : Nat) (enc : α → List AV) (l s : List α) : AV := .lst sz l.length (l.length + s.length) (nrm (l.length + s.length) fun i => enc (el (l ++ s) i))
/-! The cells of plain things. -/
def eInt (k : IntKind) (n : Int) : List AV := [.v (.int k n)]
def eBool (b : Bool) : List AV := [.v (.bool b)]
def eStr (s : ByteArray) : List AV := [.v (.string s)]
def eLst {α : Type} [Inhabited α] (sz : Nat) (enc : α → List AV) (s l : List α) : List AV := [lstOf sz enc l s]
theorem el_map {α : Type} [Inhabited α] (enc : α → List AV) {l : List α} {i : Nat} (h : i < l.length) : (l.map enc).getD i [] = enc (el l i) := by
  simp [el, List.getD_eq_getElem?_getD, List.getElem?_eq_getElem h]
/-- An own list by value. -/
theorem own_lst {α : Type} [Inhabited α] {sz : Nat} {enc : α → List AV} {l : List α} : AV.lst sz (l.map enc).length (l.map enc).length (fun i => (l.map enc).getD i []) = lstOf sz enc l [] := by
  unfold lstOf
  rw [List.length_map, List.append_nil, List.length_nil, Nat.add_zero]
  congr 1
  funext i
  unfold nrm
  split
  · rename_i h; exact el_map enc h
  · rename_i h
    rw [List.getD_eq_getElem?_getD, List.getElem?_eq_none (by rw [List.length_map]; omega)]
    rfl

/-! Cuts of own lists. -/
theorem cut_le {α : Type} {enc : α → List AV} {l : List α} {n : Nat} (h : n ≤ l.length) : n ≤ (l.map enc).length := by rw [List.length_map]; exact h
theorem app_le {α : Type} {l m : List α} : l.length ≤ (l ++ m).length := by rw [List.length_append]; omega
theorem cut_in {α : Type} {enc : α → List AV} {l : List α} {n : Int} (h : 0 ≤ n ∧ n ≤ ((l.length : Nat) : Int)) : 0 ≤ n ∧ n ≤ (((l.map enc).length : Nat) : Int) := by rw [List.length_map]; exact h
theorem cut_app {α : Type} {enc : α → List AV} {l m : List α} : 0 ≤ ((l.length : Nat) : Int) ∧ ((l.length : Nat) : Int) ≤ ((((l ++ m).map enc).length : Nat) : Int) := by rw [List.length_map, List.length_append]; omega
theorem cut_lst {α : Type} [Inhabited α] {enc : α → List AV} (sz : Nat) (l m : List α) : AV.lst sz l.length ((l ++ m).map enc).length (fun i => ((l ++ m).map enc).getD i []) = lstOf sz enc l m := by
  unfold lstOf
  rw [List.length_map, List.length_append]
  congr 1
  funext i
  unfold nrm
  split
  · rename_i h; exact el_map enc (by rw [List.length_append]; exact h)
  · rename_i h
    rw [List.getD_eq_getElem?_getD, List.getElem?_eq_none (by rw [List.length_map, List.length_append]; omega)]
    rfl

/-- The loops of code, those within behind those around. -/
theorem cutn_lst {α : Type} [Inhabited α] {l : List α} {n : Nat} (h : n ≤ l.length) (sz : Nat) (enc : α → List AV) : AV.lst sz n (l.map enc).length (fun i => (l.map enc).getD i []) = lstOf sz enc (l.take n) (l.drop n) := by
  have e := cut_lst (enc := enc) sz (l.take n) (l.drop n)
  rwa [List.take_append_drop, List.length_take, Nat.min_eq_left h] at e
theorem cut_nat {l n : Nat} (h : 0 ≤ ((n : Nat) : Int) ∧ ((n : Nat) : Int) ≤ ((l : Nat) : Int)) : n ≤ l := by omega
def loopsOf : Code → List Code
  | .seq a b => loopsOf a ++ loopsOf b
  | .cond _ x y => loopsOf x ++ loopsOf y
  | .block _ c => loopsOf c
  | .loop c => c :: loopsOf c
  | .scope c => loopsOf c
  | .rangeFunc _ _ a b => loopsOf a ++ loopsOf b
  | _ => []
def lp (C : Ctx) (f k : Nat) : Code := match C.fn f with
  | some fn => match fn.body with
    | some c => (loopsOf c).getD k .skip
    | none => .skip
  | none => .skip
/-- The loops over functions. -/
def rangesOf : Code → List Code
  | .seq a b => rangesOf a ++ rangesOf b
  | .cond _ x y => rangesOf x ++ rangesOf y
  | .block _ c => rangesOf c
  | .loop c => rangesOf c
  | .scope c => rangesOf c
  | .rangeFunc g ps a b => .rangeFunc g ps a b :: rangesOf b
  | _ => []
def rg (C : Ctx) (f k : Nat) : Code := match C.fn f with
  | some fn => match fn.body with
    | some c => (rangesOf c).getD k .skip
    | none => .skip
  | none => .skip
/-- Slots: those told, and nothing in all others. -/
def sp (n : Nat) (l : List (Nat × AV)) : List AV := l.foldr (fun p t => t.set p.1 p.2) (List.replicate n .any)

theorem All.tt {ps : List Prop} (h : All ps) : All ((true = true) :: ps) := All.cons rfl h
theorem All.ff {ps : List Prop} (h : All ps) : All ((false = false) :: ps) := All.cons rfl h

/-- A round that ends the loop; one that goes on. -/
def outP (C : Ctx) (P : Program) (n : Nat) (c : Code) (t : St) (os : List Or) : Option (Ex × St × List Prop) := match codeP C P n c t os with
  | .ok (e, s') [] ps => some (e, leave C.kl c t.H.length s', ps)
  | _ => none
def agnP (C : Ctx) (P : Program) (n : Nat) (c : Code) (t : St) (os : List Or) : Option (St × List Prop) := match codeP C P n c t os with
  | .ok (.norm, s1) [] ps => some (head C.kl c (clean (keepN C.kl c t.H.length s1) s1), ps)
  | _ => none
theorem LRuns.out_way {c : Code} {s t : St} {e : Ex} {ps : List Prop} (n : Nat) (os : List Or) (q : outP C P n c s os = some (e, t, ps)) (h : All ps) (he : e ≠ .norm) : LRuns C P c s e t := by
  unfold outP at q
  split at q
  · rename_i e' s' ps' hc
    simp only [Option.some.injEq, Prod.mk.injEq] at q
    obtain ⟨rfl, rfl, rfl⟩ := q
    exact LRuns.out (codeP_sound _ _ _ _ _ _ _ _ hc h) he
  · cases q
theorem LRuns.again_way {c : Code} {s t s' : St} {e : Ex} {ps : List Prop} (n : Nat) (os : List Or) (q : agnP C P n c s os = some (t, ps)) (h : All ps) (k : LRuns C P c t e s') : LRuns C P c s e s' := by
  unfold agnP at q
  split at q
  · rename_i s1 ps' hc
    simp only [Option.some.injEq, Prod.mk.injEq] at q
    obtain ⟨rfl, rfl⟩ := q
    exact LRuns.again (codeP_sound _ _ _ _ _ _ _ _ hc h) k
  · cases q
/-- A round of a loop over a function. -/
def rndP (C : Ctx) (P : Program) (n : Nat) (c : Code) (row : List AV) (s : St) (os : List Or) : Option (Ex × St × List Prop) := match codeP C P n (rgA c) ⟨setPs s.tmps (rgP c) row, s.H, s.H.length⟩ os with
  | .ok (.norm, s1) os1 ps1 => match codeP C P n (rgB c) s1 os1 with
    | .ok (e, s2) [] ps2 => some (e, clean s.H.length ⟨s.tmps, s2.H, s.base⟩, ps1 ++ ps2)
    | _ => none
  | _ => none
theorem rndP_sound {n : Nat} {c : Code} {row : List AV} {s t : St} {os : List Or} {e : Ex} {ps : List Prop} (q : rndP C P n c row s os = some (e, t, ps)) (h : All ps) : ∃ s1 s2, Runs C P (rgA c) ⟨setPs s.tmps (rgP c) row, s.H, s.H.length⟩ .norm s1 ∧ Runs C P (rgB c) s1 e s2 ∧ t = clean s.H.length ⟨s.tmps, s2.H, s.base⟩ := by
  unfold rndP at q
  split at q
  · rename_i s1 os1 ps1 h1
    split at q
    · rename_i e2 s2 ps2 h2
      simp only [Option.some.injEq, Prod.mk.injEq] at q
      obtain ⟨rfl, rfl, rfl⟩ := q
      exact ⟨s1, s2, codeP_sound _ _ _ _ _ _ _ _ h1 h.left, codeP_sound _ _ _ _ _ _ _ _ h2 h.right, rfl⟩
    · cases q
  · cases q
/-! Small facts that ways ask for. -/
theorem wrap1 {n : Nat} (h : n < 9223372036854775807) : IntKind.i64.wrap ((n : Int) + 1) = ((n + 1 : Nat) : Int) := by
  rw [IntWalk.i64_in _ (by omega)]
  omega
theorem w1 {n : Nat} (h : n < 9223372036854775807) : some (AV.v (.int .i64 (IntKind.i64.wrap ((n : Int) + 1)))) = some (.v (.int .i64 ((n + 1 : Nat) : Int))) := by rw [wrap1 h]
theorem lt_yes {i n : Nat} (h : i < n) : decide ((i : Int) < (n : Int)) = true := decide_eq_true (by omega)
theorem lt_no {i n : Nat} (h : n ≤ i) : decide ((i : Int) < (n : Int)) = false := decide_eq_false (by omega)
theorem in_of {i n : Nat} (h : i < n) : 0 ≤ (i : Int) ∧ (i : Int) < (n : Int) := by omega
theorem el_nil {α : Type} [Inhabited α] (l : List α) (i : Nat) : el (l ++ []) i = el l i := by rw [List.append_nil]
theorem el_left {α : Type} [Inhabited α] {l s : List α} {i : Nat} (h : i < l.length) : el (l ++ s) i = el l i := by
  simp [el, List.getD_eq_getElem?_getD, List.getElem?_append_left h]
theorem drop_el {α : Type} [Inhabited α] {l : List α} {i : Nat} (h : i < l.length) : l.drop i = el l i :: l.drop (i + 1) := by
  rw [List.drop_eq_getElem_cons h]
  simp [el, List.getD_eq_getElem?_getD, List.getElem?_eq_getElem h]
theorem el_mem {α : Type} [Inhabited α] {l : List α} {i : Nat} (h : i < l.length) : el l i ∈ l := by
  rw [el, List.getD_eq_getElem?_getD, List.getElem?_eq_getElem h]
  exact List.getElem_mem h

theorem Runs.congr {c : Code} {s s' t t' : St} {e : Ex} (h : Runs C P c s e s') (h1 : s = t) (h2 : s' = t') : Runs C P c t e t' := h1 ▸ h2 ▸ h
end Go.Proofs.Ytkifbcjmmkbilaa.Av
