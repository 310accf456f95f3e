/- Functions in plain words: rounds of loops with what they leave, answers that may fail; how a proof follows them. -/
import Derived.Test.YtkifbcjmmkbilaaAvX
set_option linter.unusedVariables false
set_option linter.unusedSimpArgs false
set_option linter.unusedSectionVars false
namespace Go.Proofs.Ytkifbcjmmkbilaa.Av
open Go Go.RowKit
variable {P : Program} {C : Ctx} {G : World → Prop}

/-! Zero cells, in short. -/
abbrev n0 : AV := .v (.int .i64 0)
abbrev nS : AV := .v (.string ⟨#[]⟩)
abbrev nB : AV := .v (.bool false)

/-- What a round leaves: it goes on, it is left, or nothing is said. -/
inductive Res (σ ρ : Type) where
  | go (s : σ)
  | out (r : ρ)
  | die
/-- So many rounds from a number on. -/
def rndN {σ ρ : Type} (step : Nat → σ → Res σ ρ) : Nat → Nat → σ → Res σ ρ
  | 0, _, s => .go s
  | k + 1, i, s => match step i s with
    | .go s' => rndN step k (i + 1) s'
    | .out r => .out r
    | .die => .die
/-- At most so many rounds. -/
def rndF {σ ρ : Type} (step : σ → Res σ ρ) : Nat → σ → Res σ ρ
  | 0, _ => .die
  | k + 1, s => match step s with
    | .go s' => rndF step k s'
    | .out r => .out r
    | .die => .die
def Res.opt {σ ρ α : Type} (r : Res σ ρ) (g : σ → Option α) (o : ρ → Option α) : Option α := match r with
  | .go s => g s
  | .out x => o x
  | .die => none
def Res.res {σ ρ σ' ρ' : Type} (r : Res σ ρ) (g : σ → Res σ' ρ') (o : ρ → Res σ' ρ') : Res σ' ρ' := match r with
  | .go s => g s
  | .out x => o x
  | .die => .die
def optRes {α σ ρ : Type} (x : Option α) (k : α → Res σ ρ) : Res σ ρ := match x with
  | some a => k a
  | none => .die

/-- Errors: none, a number, a number with a place. -/
inductive Er where
  | ok
  | no (n : Int)
  | at (n i : Int)
deriving Inhabited, DecidableEq
def Er.elim {α : Type} (e : Er) (a : α) (b : Int → α) (c : Int → Int → α) : α := match e with
  | .ok => a
  | .no n => b n
  | .at n i => c n i

def Er.isOk : Er → Bool
  | .ok => true
  | _ => false
def Aq {α : Type} (o : Option α) (Q : α → Prop) : Prop := ∀ a, o = some a → Q a
def AqR {σ ρ : Type} (r : Res σ ρ) (G : σ → Prop) (O : ρ → Prop) : Prop := match r with
  | .go s => G s
  | .out x => O x
  | .die => True
section
variable {α β σ ρ σ' ρ' : Type} {Q : α → Prop} {GG : σ' → Prop} {OO : ρ' → Prop}
theorem Aq.br {b : Bool} {x y : Option α} (h : b = true → Aq x Q) (k : b = false → Aq y Q) : Aq (bif b then x else y) Q := by
  cases b
  · exact k rfl
  · exact h rfl
theorem Aq.need {p : Prop} [Decidable p] {x : Option α} (h : p → Aq x Q) : Aq (if p then x else none) Q := by
  by_cases hp : p
  · rw [if_pos hp]; exact h hp
  · rw [if_neg hp]; intro a e; cases e
theorem Aq.ret {a : α} (h : Q a) : Aq (some a) Q := fun b e => by obtain rfl := Option.some.inj e; exact h
theorem Aq.die : Aq (none : Option α) Q := fun b e => by cases e
theorem Aq.call {Q1 : β → Prop} {o : Option β} {k : β → Option α} (h : Aq o Q1) (hk : ∀ a, Q1 a → Aq (k a) Q) : Aq (o.bind k) Q := fun a e => by
  obtain ⟨b, hb, e⟩ := Option.bind_eq_some_iff.1 e
  exact hk b (h b hb) a e
theorem Aq.loop {G : σ → Prop} {O : ρ → Prop} {r : Res σ ρ} {g : σ → Option α} {o : ρ → Option α} (h : AqR r G O) (hg : ∀ s, G s → Aq (g s) Q) (ho : ∀ x, O x → Aq (o x) Q) : Aq (r.opt g o) Q := by
  cases r with
  | go s => exact hg s h
  | out x => exact ho x h
  | die => intro a e; cases e
theorem Aq.er {e : Er} {x : Option α} {y : Int → Option α} {z : Int → Int → Option α} (h1 : e = .ok → Aq x Q) (h2 : ∀ n, e = .no n → Aq (y n) Q) (h3 : ∀ n i, e = .at n i → Aq (z n i) Q) : Aq (e.elim x y z) Q := by
  cases e with
  | ok => exact h1 rfl
  | no n => exact h2 n rfl
  | «at» n i => exact h3 n i rfl
theorem Aq.sum {A B : Type} {O1 : A → Prop} {O2 : B → Prop} {o1 : A → Option α} {o2 : B → Option α} (h1 : ∀ a, O1 a → Aq (o1 a) Q) (h2 : ∀ a, O2 a → Aq (o2 a) Q) (x : A ⊕ B) (h : Sum.elim O1 O2 x) : Aq (Sum.elim o1 o2 x) Q := by
  cases x with
  | inl a => exact h1 a h
  | inr a => exact h2 a h
theorem AqR.br {b : Bool} {x y : Res σ' ρ'} (h : b = true → AqR x GG OO) (k : b = false → AqR y GG OO) : AqR (bif b then x else y) GG OO := by
  cases b
  · exact k rfl
  · exact h rfl
theorem AqR.need {p : Prop} [Decidable p] {x : Res σ' ρ'} (h : p → AqR x GG OO) : AqR (if p then x else .die) GG OO := by
  by_cases hp : p
  · rw [if_pos hp]; exact h hp
  · rw [if_neg hp]; trivial
theorem AqR.goes {s : σ'} (h : GG s) : AqR (.go s : Res σ' ρ') GG OO := h
theorem AqR.outs {s : ρ'} (h : OO s) : AqR (.out s : Res σ' ρ') GG OO := h
theorem AqR.call {Q1 : β → Prop} {o : Option β} {k : β → Res σ' ρ'} (h : Aq o Q1) (hk : ∀ a, Q1 a → AqR (k a) GG OO) : AqR (optRes o k) GG OO := by
  cases o with
  | none => trivial
  | some a => exact hk a (h a rfl)
theorem AqR.loop {G : σ → Prop} {O : ρ → Prop} {r : Res σ ρ} {g : σ → Res σ' ρ'} {o : ρ → Res σ' ρ'} (h : AqR r G O) (hg : ∀ s, G s → AqR (g s) GG OO) (ho : ∀ x, O x → AqR (o x) GG OO) : AqR (r.res g o) GG OO := by
  cases r with
  | go s => exact hg s h
  | out x => exact ho x h
  | die => trivial
theorem AqR.er {e : Er} {x : Res σ' ρ'} {y : Int → Res σ' ρ'} {z : Int → Int → Res σ' ρ'} (h1 : e = .ok → AqR x GG OO) (h2 : ∀ n, e = .no n → AqR (y n) GG OO) (h3 : ∀ n i, e = .at n i → AqR (z n i) GG OO) : AqR (e.elim x y z) GG OO := by
  cases e with
  | ok => exact h1 rfl
  | no n => exact h2 n rfl
  | «at» n i => exact h3 n i rfl
theorem AqR.sum {A B : Type} {O1 : A → Prop} {O2 : B → Prop} {o1 : A → Res σ' ρ'} {o2 : B → Res σ' ρ'} (h1 : ∀ a, O1 a → AqR (o1 a) GG OO) (h2 : ∀ a, O2 a → AqR (o2 a) GG OO) (x : A ⊕ B) (h : Sum.elim O1 O2 x) : AqR (Sum.elim o1 o2 x) GG OO := by
  cases x with
  | inl a => exact h1 a h
  | inr a => exact h2 a h
theorem AqR.mono {r : Res σ' ρ'} {G2 : σ' → Prop} {O2 : ρ' → Prop} (h : AqR r GG OO) (hg : ∀ s, GG s → G2 s) (ho : ∀ s, OO s → O2 s) : AqR r G2 O2 := by
  cases r with
  | go s => exact hg s h
  | out x => exact ho x h
  | die => trivial

/-- Rounds one behind the other: I holds ahead of a round, and what a round comes to is told by the rounds behind. -/
theorem rounds_N {σ ρ : Type} {step : Nat → σ → Res σ ρ} (n : Nat)
    {T : Nat → σ → Res σ ρ → Prop}
    (hend : ∀ s, T n s (.go s)) (hstep : ∀ i s, i < n → AqR (step i s) (fun s' => ∀ r, T (i + 1) s' r → T i s r) (fun x => T i s (.out x))) (hdie : ∀ i s, T i s .die) :
    ∀ k i s, i + k = n → T i s (rndN step k i s)
  | 0, i, s, h => by
    obtain rfl : i = n := by omega
    exact hend s
  | k + 1, i, s, h => by
    have hs := hstep i s (by omega)
    have ih := rounds_N n hend hstep hdie k (i + 1)
    rw [rndN]
    cases hq : step i s with
    | go s' => rw [hq] at hs; exact hs _ (ih s' (by omega))
    | out x => rw [hq] at hs; exact hs
    | die => exact hdie i s
theorem rounds_F {σ ρ : Type} {step : σ → Res σ ρ} {T : σ → Res σ ρ → Prop} (hstep : ∀ s, AqR (step s) (fun s' => ∀ r, T s' r → T s r) (fun x => T s (.out x))) (hdie : ∀ s, T s .die) : ∀ k s, T s (rndF step k s)
  | 0, s => hdie s
  | k + 1, s => by
    have hs := hstep s
    rw [rndF]
    cases hq : step s with
    | go s' => rw [hq] at hs; exact hs _ (rounds_F hstep hdie k s')
    | out x => rw [hq] at hs; exact hs
    | die => exact hdie s
end

/-! What a loop comes to. -/
/-- A state, but for what is not looked at any more. -/
def Sh (ex : Ex) (E : (Nat → AV) → (Nat → Blk) → St) : Ex → St → Prop := fun e t => ∃ z zb, e = ex ∧ t = E z zb
def Cmq {σ ρ : Type} (C : Ctx) (P : Program) (c : Code) (A : σ → Ex → St → Prop) (B : ρ → Ex → St → Prop) (r : Res σ ρ) (st : St) : Prop := match r with
  | .go s => ∃ e t, A s e t ∧ LRuns C P c st e t
  | .out x => ∃ e t, B x e t ∧ LRuns C P c st e t
  | .die => True
/-- Does it leave? -/
def exOut : Ex → Bool
  | .norm => false
  | _ => true
theorem exOut_ne {e : Ex} (h : exOut e = true) : e ≠ .norm := fun q => by rw [q] at h; cases h
/-- Junk. -/
def jk (l : List AV) : Nat → AV := fun k => l.getD k .any
def jb (l : List Blk) : Nat → Blk := fun k => l.getD k .dead
section
variable {σ ρ : Type} {c : Code} {A : σ → Ex → St → Prop} {B : ρ → Ex → St → Prop}
theorem Cmq.again {st t : St} {ps : List Prop} {r : Res σ ρ} (n : Nat) (os : List Or) (q : agnP C P n c st os = some (t, ps)) (h : All ps) (k : Cmq C P c A B r t) : Cmq C P c A B r st := by
  cases r with
  | go s => obtain ⟨e, u, a, k⟩ := k; exact ⟨e, u, a, LRuns.again_way n os q h k⟩
  | out s => obtain ⟨e, u, a, k⟩ := k; exact ⟨e, u, a, LRuns.again_way n os q h k⟩
  | die => trivial
theorem Cmq.leave {ex : Ex} {E : ρ → (Nat → AV) → (Nat → Blk) → St} {st : St} {x : ρ} {ps : List Prop} (n : Nat) (os : List Or) (z : Nat → AV) (zb : Nat → Blk) (he : exOut ex = true) (q : outP C P n c st os = some (ex, E x z zb, ps)) (h : All ps) (hB : B x ex (E x z zb)) : Cmq C P c A B (.out x) st :=
  ⟨_, _, hB, LRuns.out_way n os q h (exOut_ne he)⟩
theorem Cmq.fin {ex : Ex} {E : (Nat → AV) → (Nat → Blk) → St} {st : St} {x : σ} {ps : List Prop} (n : Nat) (os : List Or) (z : Nat → AV) (zb : Nat → Blk) (he : exOut ex = true) (q : outP C P n c st os = some (ex, E z zb, ps)) (h : All ps) (hA : A x ex (E z zb)) : Cmq C P c A B (.go x) st :=
  ⟨_, _, hA, LRuns.out_way n os q h (exOut_ne he)⟩
theorem Cmq.idx {r : Res σ ρ} {a b : Int} (F : Int → St) (h : a = b) (k : Cmq C P c A B r (F b)) : Cmq C P c A B r (F a) := h ▸ k
theorem Cmq.die {st : St} : Cmq C P c A B (.die : Res σ ρ) st := trivial
theorem Cmq.spec {r : Res σ ρ} {st : St} (h : Cmq C P c A B r st) : AqR r (fun s => ∃ e t, A s e t ∧ LRuns C P c st e t) (fun x => ∃ e t, B x e t ∧ LRuns C P c st e t) := by
  cases r <;> exact h
theorem Sh.mk {ex : Ex} {E : (Nat → AV) → (Nat → Blk) → St} (z : Nat → AV) (zb : Nat → Blk) : Sh ex E ex (E z zb) := ⟨z, zb, rfl, rfl⟩
theorem Sh.go {c : Code} {ex : Ex} {E : (Nat → AV) → (Nat → Blk) → St} {st : St} {X : Prop} (h : ∃ e t, Sh ex E e t ∧ LRuns C P c st e t) (k : ∀ z zb, LRuns C P c st ex (E z zb) → X) : X := by
  obtain ⟨e, t, ⟨z, zb, rfl, rfl⟩, hr⟩ := h
  exact k z zb hr
theorem Aq.sumB {α A1 A2 : Type} {Q : α → Prop} {c : Code} {st : St} {B1 : A1 → Ex → St → Prop} {B2 : A2 → Ex → St → Prop} {o1 : A1 → Option α} {o2 : A2 → Option α} (h1 : ∀ a, (∃ e t, B1 a e t ∧ LRuns C P c st e t) → Aq (o1 a) Q) (h2 : ∀ a, (∃ e t, B2 a e t ∧ LRuns C P c st e t) → Aq (o2 a) Q)
    (x : A1 ⊕ A2) (h : ∃ e t, (Sum.elim B1 B2 x) e t ∧ LRuns C P c st e t) : Aq (Sum.elim o1 o2 x) Q := by
  cases x with
  | inl a => exact h1 a h
  | inr a => exact h2 a h
theorem AqR.sumB {σ' ρ' A1 A2 : Type} {GG : σ' → Prop} {OO : ρ' → Prop} {c : Code} {st : St} {B1 : A1 → Ex → St → Prop} {B2 : A2 → Ex → St → Prop} {o1 : A1 → Res σ' ρ'} {o2 : A2 → Res σ' ρ'} (h1 : ∀ a, (∃ e t, B1 a e t ∧ LRuns C P c st e t) → AqR (o1 a) GG OO) (h2 : ∀ a, (∃ e t, B2 a e t ∧ LRuns C P c st e t) → AqR (o2 a) GG OO)
    (x : A1 ⊕ A2) (h : ∃ e t, (Sum.elim B1 B2 x) e t ∧ LRuns C P c st e t) : AqR (Sum.elim o1 o2 x) GG OO := by
  cases x with
  | inl a => exact h1 a h
  | inr a => exact h2 a h
end

/-! What a loop over a function comes to. -/
def Rmq {σ ρ : Type} (C : Ctx) (P : Program) (c : Code) (rows : List (List AV)) (A : σ → Ex → St → Prop) (B : ρ → Ex → St → Prop) (r : Res σ ρ) (st : St) : Prop := match r with
  | .go s => ∃ e t, A s e t ∧ RRuns C P (rgP c) (rgA c) (rgB c) rows st e t
  | .out x => ∃ e t, B x e t ∧ RRuns C P (rgP c) (rgA c) (rgB c) rows st e t
  | .die => True
def Gq {ρ : Type} (C : Ctx) (P : Program) (c : Code) (x : AV) (B : ρ → Ex → St → Prop) (st : St) (d : ρ) : Prop := ∃ e t, B d e t ∧ GR C P c x st e t
section
variable {σ ρ α : Type} [Inhabited α] {c : Code} {A : σ → Ex → St → Prop} {B : ρ → Ex → St → Prop} {xs : List α} {rw_ : α → List AV} {i : Nat}
theorem Rmq.again (hi : i < xs.length) {st t : St} {ps : List Prop} {r : Res σ ρ} (n : Nat) (os : List Or) (q : rndP C P n c (rw_ (el xs i)) st os = some (.norm, t, ps)) (h : All ps) (k : Rmq C P c ((xs.drop (i + 1)).map rw_) A B r t) : Rmq C P c ((xs.drop i).map rw_) A B r st := by
  obtain ⟨s1, s2, h1, h2, rfl⟩ := rndP_sound q h
  have e : (xs.drop i).map rw_ = rw_ (el xs i) :: (xs.drop (i + 1)).map rw_ := by rw [drop_el hi]; rfl
  cases r with
  | go s => obtain ⟨e1, u, a, k⟩ := k; exact ⟨e1, u, a, by rw [e]; exact RRuns.cons h1 h2 k⟩
  | out s => obtain ⟨e1, u, a, k⟩ := k; exact ⟨e1, u, a, by rw [e]; exact RRuns.cons h1 h2 k⟩
  | die => trivial
theorem Rmq.leave (hi : i < xs.length) {ex : Ex} {E : ρ → (Nat → AV) → (Nat → Blk) → St} {st : St} {x : ρ} {ps : List Prop} (n : Nat) (os : List Or) (z : Nat → AV) (zb : Nat → Blk) (he : exOut ex = true) (q : rndP C P n c (rw_ (el xs i)) st os = some (ex, E x z zb, ps)) (h : All ps) (hB : B x ex (E x z zb)) :
    Rmq C P c ((xs.drop i).map rw_) A B (.out x) st := by
  obtain ⟨s1, s2, h1, h2, h3⟩ := rndP_sound q h
  have e : (xs.drop i).map rw_ = rw_ (el xs i) :: (xs.drop (i + 1)).map rw_ := by rw [drop_el hi]; rfl
  refine ⟨_, _, hB, ?_⟩
  rw [h3, e]
  exact RRuns.out h1 h2 (exOut_ne he)
theorem Rmq.fin {st : St} {x : σ} (hA : A x .norm st) : Rmq C P c ((xs.drop xs.length).map rw_) A B (.go x) st := ⟨_, _, hA, by rw [List.drop_length]; exact RRuns.nil⟩
theorem Rmq.spec {r : Res σ ρ} {st : St} {x : AV} {rows : List (List AV)} (hr : rowsA C x (rgP c).length = some rows) (h : Rmq C P c rows A B r st) : AqR r (Gq C P c x A st) (Gq C P c x B st) := by
  cases r with
  | go s => obtain ⟨e, t, a, k⟩ := h; exact ⟨e, t, a, rows, hr, k⟩
  | out s => obtain ⟨e, t, a, k⟩ := h; exact ⟨e, t, a, rows, hr, k⟩
  | die => trivial
theorem Gq.go {ex : Ex} {E : ρ → (Nat → AV) → (Nat → Blk) → St} {st : St} {v : AV} {x : ρ} {X : Prop} (h : Gq C P c v (fun d => Sh ex (E d)) st x) (k : ∀ z zb, GR C P c v st ex (E x z zb) → X) : X := by
  obtain ⟨e, t, ⟨z, zb, rfl, rfl⟩, hr⟩ := h
  exact k z zb hr
theorem Aq.sumG {β A1 A2 : Type} {Q : β → Prop} {st : St} {v : AV} {B1 : A1 → Ex → St → Prop} {B2 : A2 → Ex → St → Prop} {o1 : A1 → Option β} {o2 : A2 → Option β} (h1 : ∀ a, Gq C P c v B1 st a → Aq (o1 a) Q) (h2 : ∀ a, Gq C P c v B2 st a → Aq (o2 a) Q)
    (x : A1 ⊕ A2) (h : Gq C P c v (Sum.elim B1 B2) st x) : Aq (Sum.elim o1 o2 x) Q := by
  cases x with
  | inl a => exact h1 a h
  | inr a => exact h2 a h
theorem AqR.sumG {σ' ρ' A1 A2 : Type} {GG : σ' → Prop} {OO : ρ' → Prop} {st : St} {v : AV} {B1 : A1 → Ex → St → Prop} {B2 : A2 → Ex → St → Prop} {o1 : A1 → Res σ' ρ'} {o2 : A2 → Res σ' ρ'} (h1 : ∀ a, Gq C P c v B1 st a → AqR (o1 a) GG OO) (h2 : ∀ a, Gq C P c v B2 st a → AqR (o2 a) GG OO)
    (x : A1 ⊕ A2) (h : Gq C P c v (Sum.elim B1 B2) st x) : AqR (Sum.elim o1 o2 x) GG OO := by
  cases x with
  | inl a => exact h1 a h
  | inr a => exact h2 a h
/-- What a function hands out, by its summary. -/
theorem rows_of {x : AV} {n f : Nat} {caps : List AV} {q : List AV → Option (List (List AV))} (hx : x = .fn f caps) (hq : C.sq f = some q) (hb : AV.hbs 0 caps = true) (hr : q caps = some (xs.map rw_)) (hl : ∀ y, (rw_ y).length = n) : rowsA C x n = some ((xs.drop 0).map rw_) := by
  rw [hx, List.drop_zero]
  unfold rowsA
  simp only [hq, hb, hr]
  rw [if_pos]
  rw [List.all_eq_true]
  intro r hr'
  obtain ⟨y, _, rfl⟩ := List.mem_map.1 hr'
  rw [hl]
  exact Nat.beq_refl n
end

/-! Ways that come together again: a part of code by itself. -/
/-- The part of code at a place. -/
def cat : List Nat → Code → Code
  | [], c => c
  | d :: p, .seq a b => match d with | 0 => cat p a | _ => cat p b
  | d :: p, .cond _ a b => match d with | 0 => cat p a | _ => cat p b
  | _ :: p, .block _ c => cat p c
  | _ :: p, .loop c => cat p c
  | _ :: p, .scope c => cat p c
  | d :: p, .rangeFunc _ _ a b => match d with | 0 => cat p a | _ => cat p b
  | _ :: _, c => c
def pt (C : Ctx) (f : Nat) (p : List Nat) : Code := match C.fn f with
  | some fn => match fn.body with
    | some c => cat p c
    | none => .skip
  | none => .skip
def runP (C : Ctx) (P : Program) (n : Nat) (c : Code) (t : St) (os : List Or) : Option (Ex × St × List Prop) := match codeP C P n c t os with
  | .ok (e, s') [] ps => some (e, s', ps)
  | _ => none
def Jq {ρ : Type} (C : Ctx) (P : Program) (c : Code) (B : ρ → Ex → St → Prop) (st : St) (x : ρ) : Prop := ∃ e t, B x e t ∧ Runs C P c st e t
section
variable {ρ : Type} {c : Code}
/-- The slots behind. -/
def zOf (r : Option (Ex × St × List Prop)) : Nat → AV := fun k => match r with
  | some (_, s, _) => s.tmps.getD k .any
  | none => .any
theorem Jq.way {B : ρ → Ex → St → Prop} {ex : Ex} {E : ρ → (Nat → AV) → (Nat → Blk) → St} {st : St} {x : ρ} {ps : List Prop} (n : Nat) (os : List Or) (q : runP C P n c st os = some (ex, E x (zOf (runP C P n c st os)) (jb []), ps)) (h : All ps) (hB : B x ex (E x (zOf (runP C P n c st os)) (jb []))) : Jq C P c B st x := by
  refine ⟨_, _, hB, ?_⟩
  obtain ⟨T, hT⟩ : ∃ T, E x (zOf (runP C P n c st os)) (jb []) = T := ⟨_, rfl⟩
  rw [hT] at q ⊢
  clear hB hT
  unfold runP at q
  split at q
  · rename_i e' s' ps' hc
    simp only [Option.some.injEq, Prod.mk.injEq] at q
    obtain ⟨rfl, rfl, rfl⟩ := q
    exact codeP_sound _ _ _ _ _ _ _ _ hc h
  · cases q
theorem Jq.go {ex : Ex} {E : ρ → (Nat → AV) → (Nat → Blk) → St} {st : St} {x : ρ} {X : Prop} (h : Jq C P c (fun d => Sh ex (E d)) st x) (k : ∀ z zb, Runs C P c st ex (E x z zb) → X) : X := by
  obtain ⟨e, t, ⟨z, zb, rfl, rfl⟩, hr⟩ := h
  exact k z zb hr
theorem Aq.sumJ {α A1 A2 : Type} {Q : α → Prop} {st : St} {B1 : A1 → Ex → St → Prop} {B2 : A2 → Ex → St → Prop} {o1 : A1 → Option α} {o2 : A2 → Option α} (h1 : ∀ a, Jq C P c B1 st a → Aq (o1 a) Q) (h2 : ∀ a, Jq C P c B2 st a → Aq (o2 a) Q)
    (x : A1 ⊕ A2) (h : Jq C P c (Sum.elim B1 B2) st x) : Aq (Sum.elim o1 o2 x) Q := by
  cases x with
  | inl a => exact h1 a h
  | inr a => exact h2 a h
theorem AqR.sumJ {σ' ρ' A1 A2 : Type} {GG : σ' → Prop} {OO : ρ' → Prop} {st : St} {B1 : A1 → Ex → St → Prop} {B2 : A2 → Ex → St → Prop} {o1 : A1 → Res σ' ρ'} {o2 : A2 → Res σ' ρ'} (h1 : ∀ a, Jq C P c B1 st a → AqR (o1 a) GG OO) (h2 : ∀ a, Jq C P c B2 st a → AqR (o2 a) GG OO)
    (x : A1 ⊕ A2) (h : Jq C P c (Sum.elim B1 B2) st x) : AqR (Sum.elim o1 o2 x) GG OO := by
  cases x with
  | inl a => exact h1 a h
  | inr a => exact h2 a h
end

/-! Functions by ways. -/
def fnVP (C : Ctx) (P : Program) (n f : Nat) (args : List AV) (os : List Or) : Option (AV × List Prop) := match fnP C (codeP C P n) f args [] os with
  | .ok (r, H) [] ps => match AV.val H r with
    | some y => some (y, ps)
    | none => none
  | _ => none
def fnOP (C : Ctx) (P : Program) (n f : Nat) (args : List AV) (os : List Or) : Option (Nat × Nat × List (List AV) × List Prop) := match fnP C (codeP C P n) f args [] os with
  | .ok (.own id ver, H) [] ps => match H[id]? with
    | some (.grow e sz v true es) => if ver = v then some (e, sz, es, ps) else none
    | _ => none
  | _ => none
theorem FnV.way {n f : Nat} {args : List AV} {os : List Or} {y : AV} {ps : List Prop} (e : fnVP C P n f args os = some (y, ps)) (h : All ps) : FnV C P f args y := by
  unfold fnVP at e
  split at e
  · rename_i r H ps' hq
    split at e
    · rename_i y' hy
      simp only [Option.some.injEq, Prod.mk.injEq] at e
      obtain ⟨rfl, rfl⟩ := e
      exact .of (Fn.way hq h) hy
    · cases e
  · cases e
theorem FnO.way {n f : Nat} {args : List AV} {os : List Or} {e sz : Nat} {es : List (List AV)} {ps : List Prop} (q : fnOP C P n f args os = some (e, sz, es, ps)) (h : All ps) : FnO C P f args e sz es := by
  unfold fnOP at q
  split at q
  · rename_i id ver H ps' hq
    split at q
    · rename_i e' sz' v es' hy
      split at q
      · rename_i hv
        subst hv
        simp only [Option.some.injEq, Prod.mk.injEq] at q
        obtain ⟨rfl, rfl, rfl, rfl⟩ := q
        exact .of (Fn.way hq h) hy
      · cases q
    · cases q
  · cases q
theorem FnV.to {f : Nat} {args : List AV} {y z : AV} (h : FnV C P f args y) (e : y = z) : FnV C P f args z := e ▸ h
theorem FnO.to {f : Nat} {args : List AV} {e sz : Nat} {es es' : List (List AV)} (h : FnO C P f args e sz es) (q : es = es') : FnO C P f args e sz es' := q ▸ h

/-- A context with summaries: of each its number, its own context, and whether it answers a list of its own. -/
structure Sm where
  n : Nat
  C : Ctx
  o : Option Bool
noncomputable def smOf (P : Program) (s : Sm) : List AV → Option (AV × List Blk) := match s.o with
  | some true => wholeO s.C P s.n
  | some false => wholeV s.C P s.n
  | none => whole s.C P s.n
noncomputable def smFind (P : Program) (m : Nat → Option (List AV → Option (AV × List Blk))) (f : Nat) : List Sm → Option (List AV → Option (AV × List Blk))
  | [] => m f
  | s :: r => match Nat.beq s.n f with
    | true => some (smOf P s)
    | false => smFind P m f r
/-- A context in which calls of some functions let go of the lists that one has. -/
noncomputable def upC (C : Ctx) : Ctx := { C with cu := true }
theorem CtxOk.upC (hK : CtxOk P C G) : CtxOk P (upC C) G := ⟨⟨hK.td.one, hK.td.agg, hK.td.sl, hK.td.conc⟩, hK.m, hK.eqs, hK.fn, hK.sq⟩
noncomputable def upF (C : Ctx) (l : List Nat) : Ctx := { C with fz := l }
theorem CtxOk.upF (hK : CtxOk P C G) (l : List Nat) : CtxOk P (upF C l) G := ⟨⟨hK.td.one, hK.td.agg, hK.td.sl, hK.td.conc⟩, hK.m, hK.eqs, hK.fn, hK.sq⟩
noncomputable def upL (C : Ctx) (P : Program) (l : List Sm) : Ctx := { C with m := fun f => smFind P C.m f l }
theorem CtxOk.upL (hM : P.follows .mixedOrders = true) (hK : CtxOk P C G) (hG : ∀ w w', G w → Below w.heap.size w w' → G w') (l : List Sm) (h : All (l.map fun s => CtxOk P s.C G ∧ (C.fn s.n).isSome = true)) : CtxOk P (upL C P l) G := by
  refine ⟨⟨hK.td.one, hK.td.agg, hK.td.sl, hK.td.conc⟩, fun n m hm => ?_, hK.eqs, hK.fn, hK.sq⟩
  have key : ∀ l : List Sm, All (l.map fun s => CtxOk P s.C G ∧ (C.fn s.n).isSome = true) → smFind P C.m n l = some m → Models P G n m ∧ ∃ fn, P.funcs[n]? = some fn ∧ fn.body.isSome = true ∧ (fn.name == "runtime.NumGoroutine") = false := by
    intro l
    induction l with
    | nil => intro _ e; exact hK.m n m e
    | cons s r ih =>
      intro h e
      unfold smFind at e
      split at e
      · rename_i hb
        obtain rfl := Nat.eq_of_beq_eq_true hb
        obtain ⟨hc, hf⟩ := h.head
        obtain ⟨fn, hf⟩ := Option.isSome_iff_exists.1 hf
        obtain rfl := Option.some.inj e
        refine ⟨?_, fn, hK.fn _ fn hf⟩
        unfold smOf
        split
        · exact wholeO_models hM hc hG _
        · exact wholeV_models hM hc hG _
        · exact whole_models hM hc hG _
      · exact ih h.tail e
  exact key l h hm
theorem call_v {C' : Ctx} {n : Nat} {caps args bs bs' : List AV} {H : List Blk} {y : AV} (hm : C.m n = some (smOf P ⟨n, C', false⟩)) (hv : AV.vals H (args ++ caps) = some bs') (ha : bs' = bs) (hf : FnV C' P n bs y)
    (hb : (AV.hbs 0 (args ++ caps) || y.flo) = true) : callMA C (.fn n caps) args H = some (y, []) := callV hm hv ha hf (by rw [Bool.or_comm]; exact hb)
theorem call_o {C' : Ctx} {n e sz : Nat} {caps args bs bs' : List AV} {H : List Blk} {es : List (List AV)} (hm : C.m n = some (smOf P ⟨n, C', true⟩)) (hv : AV.vals H (args ++ caps) = some bs') (ha : bs' = bs) (hf : FnO C' P n bs e sz es)
    (hb : (AV.hbs 0 (args ++ caps) || es.all AV.flats) = true) : callMA C (.fn n caps) args H = some (.own 0 0, [.grow e sz 0 true es]) := callO hm hv ha hf (by rw [Bool.or_comm]; exact hb)
/-- An answer with its memory, of which the first part is a list. -/
theorem call_h {α : Type} {enc : α → List AV} {C' : Ctx} {n e sz : Nat} {caps args bs bs' : List AV} {H Hr : List Blk} {l : List α} {r : AV} {pre : List Blk} (hfl : ∀ x, AV.flats (enc x) = true) (hr : (r.flo && (pre.all Blk.flat && Hr.all Blk.flat)) = true) (hm : C.m n = some (smOf P ⟨n, C', none⟩)) (hv : AV.vals H (args ++ caps) = some bs') (ha : bs' = bs)
    (hf : Fn C' P n bs [] r (pre ++ .grow e sz 0 true (l.map enc) :: Hr)) : callMA C (.fn n caps) args H = some (r, pre ++ .grow e sz 0 true (l.map enc) :: Hr) :=
  callM hm hv ha (whole_eq hf) (by
    rw [Bool.and_eq_true, Bool.and_eq_true] at hr
    have e : (l.map enc).all AV.flats = true := List.all_eq_true.2 fun c hc => by
      obtain ⟨x, _, rfl⟩ := List.mem_map.1 hc
      exact hfl x
    simp [Blk.flat, e, hr.1, hr.2.1, hr.2.2, List.all_append, -List.all_map])

/-! Small facts that ways ask for. -/
theorem wrapN {i n : Nat} (h : i < n) (hn : n ≤ 9223372036854775807) : IntKind.i64.wrap ((i : Int) + 1) = ((i + 1 : Nat) : Int) := wrap1 (by omega)
theorem rd_el {α : Type} [Inhabited α] {enc : α → List AV} {l s : List α} {i : Nat} (h : i < l.length) : nrm (l.length + s.length) (fun i => enc (el (l ++ s) i)) i = enc (el l i) := by
  rw [nrm_at (by omega), el_left h]
theorem not_t {b : Bool} (h : b = true) : (!b) = false := by rw [h]; rfl
theorem not_f {b : Bool} (h : b = false) : (!b) = true := by rw [h]; rfl
theorem len_own {α : Type} {enc : α → List AV} {l : List α} : AV.v (.int .i64 (((l.map enc).length : Nat) : Int)) = .v (.int .i64 (l.length : Int)) := by rw [List.length_map]
theorem in_own {α : Type} {enc : α → List AV} {l : List α} {i : Int} (h : 0 ≤ i ∧ i < (l.length : Int)) : 0 ≤ i ∧ i < (((l.map enc).length : Nat) : Int) := by rw [List.length_map]; exact h
theorem get_own {α : Type} [Inhabited α] {enc : α → List AV} {l : List α} {i : Nat} (h : i < l.length) : (l.map enc)[i]? = some (enc (el l i)) := by
  rw [List.getElem?_map, List.getElem?_eq_getElem h]
  simp [el, List.getD_eq_getElem?_getD, List.getElem?_eq_getElem h]
theorem app_own {α : Type} {enc : α → List AV} {l m : List α} : l.map enc ++ m.map enc = (l ++ m).map enc := (List.map_append ..).symm
theorem app_lst {α : Type} [Inhabited α] {enc : α → List AV} {l m s : List α} : l.map enc ++ (List.range m.length).map (nrm (m.length + s.length) fun i => enc (el (m ++ s) i)) = (l ++ m).map enc := by
  rw [List.map_append]
  congr 1
  apply List.ext_getElem?
  intro i
  by_cases h : i < m.length
  · rw [List.getElem?_map, List.getElem?_map, List.getElem?_range h, List.getElem?_eq_getElem h]
    simp only [Option.map_some]
    rw [rd_el h]
    simp [el, List.getD_eq_getElem?_getD, List.getElem?_eq_getElem h]
  · rw [List.getElem?_eq_none (by simpa using h), List.getElem?_eq_none (by simpa using h)]
theorem nat_in {i : Int} {n : Nat} (h : 0 ≤ i ∧ i < (n : Int)) : i.toNat < n := by omega
theorem lr_er {α : Type} {C : Ctx} {P : Program} {c : Code} {s : St} {ex : Ex} {d e : α} {F : α → St} (h : d = e) (k : LRuns C P c s ex (F d)) : LRuns C P c s ex (F e) := h ▸ k
theorem app_fr {α : Type} {enc : α → List AV} {l m : List α} {r : List (List AV)} (h : r = m.map enc) : l.map enc ++ r = (l ++ m).map enc := by rw [h, List.map_append]
theorem z_len {α : Type} {enc : α → List AV} {m : List α} {r : List (List AV)} {b : Bool} (e : r = m.map enc) (h : decide (m.length = 0) = b) : decide (r.length = 0) = b := by rw [e, List.length_map]; exact h
theorem fit {α β : Type} {f : α → β} {l : List α} {b : Nat} (h : l.length * b ≤ 140737488355328 ∧ l.length ≤ maxLen) : (l.map f).length * b ≤ 140737488355328 ∧ (l.map f).length ≤ maxLen := by rw [List.length_map]; exact h
theorem set_own {α : Type} {enc : α → List AV} {l : List α} {i : Nat} {x : α} : (l.map enc).set i (enc x) = (l.set i x).map enc := by rw [List.map_set]
theorem app_nil {α : Type} [Inhabited α] {enc : α → List AV} {m s : List α} : (List.range m.length).map (nrm (m.length + s.length) fun i => enc (el (m ++ s) i)) = m.map enc := by
  have := app_lst (enc := enc) (l := []) (m := m) (s := s)
  simpa using this
/-! Parts of lists: an own list whole. -/
section
variable {α : Type} [Inhabited α] {enc : α → List AV} {l s : List α} {lo hi : Int}
include enc
theorem cut_all1 : (0 : Int) ≤ 0 ∧ (0 : Int) ≤ (((l.map enc).length : Nat) : Int) ∧ (((l.map enc).length : Nat) : Int) ≤ (((l.map enc).length : Nat) : Int) ∧ (((l.map enc).length : Nat) : Int) ≤ (((l.map enc).length : Nat) : Int) := by omega
theorem cut_all2 : (((l.map enc).length : Nat) : Int).toNat - (0 : Int).toNat = l.length := by simp
theorem cut_all3 : (((l.map enc).length : Nat) : Int).toNat - (0 : Int).toNat = l.length + ([] : List α).length := by simp
theorem cut_all4 : ∀ i, i < l.length + ([] : List α).length → (l.map enc).getD ((0 : Int).toNat + i) [] = enc (el (l ++ []) i) := by
  intro i h
  rw [List.append_nil, show (0 : Int).toNat + i = i by simp]
  exact el_map enc (by simpa using h)
/-! The same, its length told once more, and its room. -/
theorem cutF1 : (0 : Int) ≤ 0 ∧ (0 : Int) ≤ ((l.length : Nat) : Int) ∧ ((l.length : Nat) : Int) ≤ ((l.length : Nat) : Int) ∧ ((l.length : Nat) : Int) ≤ (((l.map enc).length : Nat) : Int) := by
  rw [List.length_map]; omega
theorem cutF2 : ((l.length : Nat) : Int).toNat - (0 : Int).toNat = l.length := by simp
theorem cutF3 : ((l.length : Nat) : Int).toNat - (0 : Int).toNat = l.length + ([] : List α).length := by simp
theorem cutF4 : ∀ i, i < l.length + ([] : List α).length → (l.map enc).getD ((0 : Int).toNat + i) [] = enc (el (l ++ []) i) := cut_all4
theorem cutG1 : (0 : Int) ≤ 0 ∧ (0 : Int) ≤ ((l.length : Nat) : Int) ∧ ((l.length : Nat) : Int) ≤ (((l.map enc).length : Nat) : Int) ∧ (((l.map enc).length : Nat) : Int) ≤ (((l.map enc).length : Nat) : Int) := by
  rw [List.length_map]; omega
theorem cutG3 : (((l.map enc).length : Nat) : Int).toNat - (0 : Int).toNat = l.length + ([] : List α).length := by simp
/-! An own list from its beginning to a place. -/
theorem cutO_t1 (h : 0 ≤ hi ∧ hi ≤ ((l.length : Nat) : Int)) : (0 : Int) ≤ 0 ∧ (0 : Int) ≤ hi ∧ hi ≤ (((l.map enc).length : Nat) : Int) ∧ (((l.map enc).length : Nat) : Int) ≤ (((l.map enc).length : Nat) : Int) := by
  rw [List.length_map]; omega
theorem cutO_t2 (h : 0 ≤ hi ∧ hi ≤ ((l.length : Nat) : Int)) : hi.toNat - (0 : Int).toNat = (l.take hi.toNat).length := by
  rw [List.length_take]; simp; omega
theorem cutO_t3 (h : 0 ≤ hi ∧ hi ≤ ((l.length : Nat) : Int)) : (((l.map enc).length : Nat) : Int).toNat - (0 : Int).toNat = (l.take hi.toNat).length + (l.drop hi.toNat).length := by
  rw [List.length_take, List.length_drop]; simp; omega
theorem cutO_t4 (h : 0 ≤ hi ∧ hi ≤ ((l.length : Nat) : Int)) : ∀ i, i < (l.take hi.toNat).length + (l.drop hi.toNat).length → (l.map enc).getD ((0 : Int).toNat + i) [] = enc (el (l.take hi.toNat ++ l.drop hi.toNat) i) := by
  intro i hi'
  rw [List.take_append_drop, show (0 : Int).toNat + i = i by simp]
  refine el_map enc ?_
  rw [List.length_take, List.length_drop] at hi'
  omega
/-! An own list of two parts, cut between them. -/
theorem cutA1 : (0 : Int) ≤ 0 ∧ (0 : Int) ≤ ((l.length : Nat) : Int) ∧ ((l.length : Nat) : Int) ≤ ((((l ++ s).map enc).length : Nat) : Int) ∧ ((((l ++ s).map enc).length : Nat) : Int) ≤ ((((l ++ s).map enc).length : Nat) : Int) := by
  rw [List.length_map, List.length_append]; omega
theorem cutA2 {s : List α} : ((l.length : Nat) : Int).toNat - (0 : Int).toNat = l.length := by simp
theorem cutA3 : ((((l ++ s).map enc).length : Nat) : Int).toNat - (0 : Int).toNat = l.length + s.length := by
  rw [List.length_map, List.length_append]; omega
theorem cutA4 : ∀ i, i < l.length + s.length → ((l ++ s).map enc).getD ((0 : Int).toNat + i) [] = enc (el (l ++ s) i) := by
  intro i h
  rw [show (0 : Int).toNat + i = i by simp]
  exact el_map enc (by simpa using h)
/-! A list by value: from its beginning to a place, its spare room too. -/
theorem cutL_t1 (h : 0 ≤ hi ∧ hi ≤ (((l ++ s).length : Nat) : Int)) : (0 : Int) ≤ 0 ∧ (0 : Int) ≤ hi ∧ hi ≤ ((l.length + s.length : Nat) : Int) ∧ ((l.length + s.length : Nat) : Int) ≤ ((l.length + s.length : Nat) : Int) := by
  rw [List.length_append] at h; omega
theorem cutL_t2 (h : 0 ≤ hi ∧ hi ≤ (((l ++ s).length : Nat) : Int)) : hi.toNat - (0 : Int).toNat = ((l ++ s).take hi.toNat).length := by
  rw [List.length_take]; simp; rw [List.length_append] at h; omega
theorem cutL_t3 (h : 0 ≤ hi ∧ hi ≤ (((l ++ s).length : Nat) : Int)) : ((l.length + s.length : Nat) : Int).toNat - (0 : Int).toNat = ((l ++ s).take hi.toNat).length + ((l ++ s).drop hi.toNat).length := by
  rw [List.length_take, List.length_drop]; simp; rw [List.length_append] at h; omega
theorem cutL_t4 (h : 0 ≤ hi ∧ hi ≤ (((l ++ s).length : Nat) : Int)) : ∀ i, i < ((l ++ s).take hi.toNat).length + ((l ++ s).drop hi.toNat).length → nrm (l.length + s.length) (fun i => enc (el (l ++ s) i)) ((0 : Int).toNat + i) = enc (el ((l ++ s).take hi.toNat ++ (l ++ s).drop hi.toNat) i) := by
  intro i hi'
  rw [List.take_append_drop, show (0 : Int).toNat + i = i by simp]
  refine nrm_at ?_
  rw [List.length_take, List.length_drop, List.length_append] at hi'
  omega
/-! The same without spare room. -/
theorem cutL_t1' (h : 0 ≤ hi ∧ hi ≤ ((l.length : Nat) : Int)) : (0 : Int) ≤ 0 ∧ (0 : Int) ≤ hi ∧ hi ≤ ((l.length + ([] : List α).length : Nat) : Int) ∧ ((l.length + ([] : List α).length : Nat) : Int) ≤ ((l.length + ([] : List α).length : Nat) : Int) := by
  simp; omega
theorem cutL_t2' (h : 0 ≤ hi ∧ hi ≤ ((l.length : Nat) : Int)) : hi.toNat - (0 : Int).toNat = (l.take hi.toNat).length := cutO_t2 (enc := enc) h
theorem cutL_t3' (h : 0 ≤ hi ∧ hi ≤ ((l.length : Nat) : Int)) : ((l.length + ([] : List α).length : Nat) : Int).toNat - (0 : Int).toNat = (l.take hi.toNat).length + (l.drop hi.toNat).length := by
  rw [List.length_take, List.length_drop]; simp; omega
theorem cutL_t4' (h : 0 ≤ hi ∧ hi ≤ ((l.length : Nat) : Int)) : ∀ i, i < (l.take hi.toNat).length + (l.drop hi.toNat).length → nrm (l.length + ([] : List α).length) (fun i => enc (el (l ++ []) i)) ((0 : Int).toNat + i) = enc (el (l.take hi.toNat ++ l.drop hi.toNat) i) := by
  intro i hi'
  rw [List.take_append_drop, show (0 : Int).toNat + i = i by simp, List.append_nil]
  refine nrm_at ?_
  rw [List.length_take, List.length_drop] at hi'
  simp
  omega
/-! From a place on. -/
theorem cutL_d1 (h : 0 ≤ lo ∧ lo ≤ ((l.length : Nat) : Int)) : (0 : Int) ≤ lo ∧ lo ≤ ((l.length : Nat) : Int) ∧ ((l.length : Nat) : Int) ≤ ((l.length + s.length : Nat) : Int) ∧ ((l.length + s.length : Nat) : Int) ≤ ((l.length + s.length : Nat) : Int) := by omega
theorem cutL_d2 (h : 0 ≤ lo ∧ lo ≤ ((l.length : Nat) : Int)) : ((l.length : Nat) : Int).toNat - lo.toNat = (l.drop lo.toNat).length := by
  rw [List.length_drop]; omega
theorem cutL_d3 (h : 0 ≤ lo ∧ lo ≤ ((l.length : Nat) : Int)) : ((l.length + s.length : Nat) : Int).toNat - lo.toNat = (l.drop lo.toNat).length + s.length := by
  rw [List.length_drop]; omega
omit enc in
theorem el_drop {l : List α} {n i : Nat} : el (l.drop n) i = el l (n + i) := by
  simp [el, List.getD_eq_getElem?_getD, List.getElem?_drop]
theorem cutL_d4 (h : 0 ≤ lo ∧ lo ≤ ((l.length : Nat) : Int)) : ∀ i, i < (l.drop lo.toNat).length + s.length → nrm (l.length + s.length) (fun i => enc (el (l ++ s) i)) (lo.toNat + i) = enc (el (l.drop lo.toNat ++ s) i) := by
  intro i hi'
  rw [List.length_drop] at hi'
  rw [nrm_at (by omega), show l.drop lo.toNat ++ s = (l ++ s).drop lo.toNat by rw [List.drop_append_of_le_length (by omega)], el_drop]
end
end Go.Proofs.Ytkifbcjmmkbilaa.Av
