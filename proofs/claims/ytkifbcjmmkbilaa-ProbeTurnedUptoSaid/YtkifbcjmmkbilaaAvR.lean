/- How the interpreter's values stand for the program's: readings that never turn (by value), and own memory by handles. -/
import Derived.Test.YtkifbcjmmkbilaaAv
import Derived.Deep.MidRow
import Derived.Great.BuildSlice
import Derived.Below
import Derived.LoopN
import Derived.Scope
import Derived.RangeFuncCalls
import Derived.OrdersIn
import Derived.TacticsIn
import Derived.LoopNIn
import Derived.RangeFuncLeaves
import Derived.RangeFuncRecord
import Derived.RangeFuncNested
set_option linter.unusedVariables false
namespace Go.Proofs.Ytkifbcjmmkbilaa.Av
open Go Go.RowKit

/-- What never turns: cells of the memory, by their places. -/
abbrev Sto := Addr → Option Value

inductive RepV (S : Sto) : AV → Value → Prop
  | any (x) : RepV S .any x
  | v (x) : RepV S (.v x) x
  | nil (sz get) : RepV S (.lst sz 0 0 get) (.slice none 0 0)
  | lst (sz n m : Nat) (get : Nat → List AV) (a : Addr) (cap : Nat) (f : Nat → Nat → Value) (hnm : n ≤ m) (hn : m ≤ cap) (hl : ∀ i, i < m → (get i).length = sz)
      (hs : ∀ i j, i < m → j < sz → S (a.add (i * sz + j)) = some (f i j)) (hr : ∀ (i j : Nat) x, i < m → (get i)[j]? = some x → RepV S x (f i j)) (h1 : ∀ i j, i < m → j < sz → (f i j).oneCell' = true) : RepV S (.lst sz n m get) (.slice (some a) n cap)
  | ept (cs : List AV) (a : Addr) (f : Nat → Value) (hs : ∀ j, j < cs.length → S (a.add j) = some (f j)) (hr : ∀ (j : Nat) x, cs[j]? = some x → RepV S x (f j)) : RepV S (.ept cs) (.pointer (some a))
  | agg (cs : List AV) (us : List Value) (hl : us.length = cs.length) (h : ∀ (j : Nat) x u, cs[j]? = some x → us[j]? = some u → RepV S x u) : RepV S (.agg cs) (.agg us.toArray)
  | tup (cs : List AV) (us : List Value) (hl : us.length = cs.length) (h : ∀ (j : Nat) x u, cs[j]? = some x → us[j]? = some u → RepV S x u) : RepV S (.tup cs) (.tuple us.toArray)
  | fn (f : Nat) (cs : List AV) (us : List Value) (hl : us.length = cs.length) (h : ∀ (j : Nat) x u, cs[j]? = some x → us[j]? = some u → RepV S x u) : RepV S (.fn f cs) (.func (.func f) #[] us.toArray)
  | ifc (t : Nat) (x u) (h : RepV S x u) : RepV S (.ifc t x) (.iface t u)
  | znil (b : Bool) (sz : Nat) : RepV S (.z b sz) (.slice none 0 0)
  | zsome (sz : Nat) (a : Addr) : RepV S (.z false sz) (.slice (some a) 0 0)

def Sto.le (S S' : Sto) : Prop := ∀ a u, S a = some u → S' a = some u
theorem Sto.le_refl (S : Sto) : S.le S := fun _ _ h => h
theorem Sto.le_trans {S S' S'' : Sto} (h : S.le S') (k : S'.le S'') : S.le S'' := fun a u e => k a u (h a u e)

theorem RepV.mono {S S' : Sto} (h : S.le S') {x u} (r : RepV S x u) : RepV S' x u := by
  induction r with
  | any x => exact .any x
  | v x => exact .v x
  | nil sz get => exact .nil sz get
  | lst sz n m get a cap f hnm hn hl hs hr h1 ih => exact .lst sz n m get a cap f hnm hn hl (fun i j hi hj => h _ _ (hs i j hi hj)) ih h1
  | ept cs a f hs hr ih => exact .ept cs a f (fun j hj => h _ _ (hs j hj)) ih
  | agg cs us hl k ih => exact .agg cs us hl ih
  | tup cs us hl k ih => exact .tup cs us hl ih
  | fn f cs us hl k ih => exact .fn f cs us hl ih
  | ifc t x u k ih => exact .ifc t x u ih
  | znil b sz => exact .znil b sz
  | zsome sz a => exact .zsome sz a

/-- Where an own slice lies: its block and its room; nowhere while it is nil. -/
abbrev Pl := Nat → Option (Nat × Nat)
def slv (p : Option (Nat × Nat)) (n : Nat) : Value :=
  match p with
  | none => .slice none 0 0
  | some (b, cap) => .slice (some ⟨b, 0, none⟩) n cap

inductive Rep (S : Sto) (H : List Blk) (pl : Pl) : AV → Value → Prop
  | val (x u) (h : RepV S x u) : Rep S H pl x u
  | own (id ver u) (hi : id < H.length) (h1 : u.oneCell' = true) (h : ∀ e sz v bv es, H[id]? = some (.grow e sz v bv es) → ver ≤ v ∧ (v = ver → u = slv (pl id) es.length)) : Rep S H pl (.own id ver) u
  | gpt (id ver i off u) (hi : id < H.length) (h1 : u.oneCell' = true) (h : ∀ e sz v bv es, H[id]? = some (.grow e sz v bv es) → ver ≤ v ∧ (v = ver → ∃ b cap, pl id = some (b, cap) ∧ u = .pointer (some ⟨b, i * sz + off, none⟩))) : Rep S H pl (.gpt id ver i off) u
  | ptr (k off u) (hi : k < H.length) (h1 : u.oneCell' = true) (h : ∀ cs, H[k]? = some (.var cs) → ∃ b c, pl k = some (b, c) ∧ u = .pointer (some ⟨b, off, none⟩)) : Rep S H pl (.ptr k off) u
  | cut (id ver n u) (hi : id < H.length) (h1 : u.oneCell' = true) (h : ∀ e sz v bv es, H[id]? = some (.grow e sz v bv es) → ver ≤ v ∧ (v = ver → n ≤ es.length ∧ u = slv (pl id) n)) : Rep S H pl (.cut id ver n) u
  | agg (cs : List AV) (us : List Value) (hl : us.length = cs.length) (h : ∀ (j : Nat) x u, cs[j]? = some x → us[j]? = some u → Rep S H pl x u) : Rep S H pl (.agg cs) (.agg us.toArray)
  | tup (cs : List AV) (us : List Value) (hl : us.length = cs.length) (h : ∀ (j : Nat) x u, cs[j]? = some x → us[j]? = some u → Rep S H pl x u) : Rep S H pl (.tup cs) (.tuple us.toArray)
  | fn (f : Nat) (cs : List AV) (us : List Value) (hl : us.length = cs.length) (h : ∀ (j : Nat) x u, cs[j]? = some x → us[j]? = some u → Rep S H pl x u) : Rep S H pl (.fn f cs) (.func (.func f) #[] us.toArray)
  | ifc (t : Nat) (x u) (h : Rep S H pl x u) : Rep S H pl (.ifc t x) (.iface t u)

/-- Cells one by one. -/
def Cs (R : AV → Value → Prop) (cs : List AV) (us : List Value) : Prop := us.length = cs.length ∧ ∀ (j : Nat) x u, cs[j]? = some x → us[j]? = some u → R x u
theorem zAV_rep {S : Sto} : ∀ (ks : List Nat) (us : List Value), Cs (RepV S) (zAV ks us) us
  | ks, [] => by cases ks <;> exact ⟨rfl, fun j x u hx => by simp [zAV] at hx⟩
  | [], u :: us => by
    obtain ⟨h1, h2⟩ := zAV_rep (S := S) [] us
    refine ⟨by simp [zAV, h1], fun j x v hx hv => ?_⟩
    cases j with
    | zero => simp [zAV] at hx hv; subst hx; subst hv; exact .v _
    | succ j => simp [zAV] at hx hv; exact h2 j x v hx hv
  | k :: ks, u :: us => by
    obtain ⟨h1, h2⟩ := zAV_rep (S := S) ks us
    refine ⟨by simp [zAV, h1], fun j x v hx hv => ?_⟩
    cases j with
    | zero =>
      simp only [zAV, List.getElem?_cons_zero, Option.some.injEq] at hx hv
      subst hv
      subst hx
      split
      · exact .znil _ _
      · exact .v _
    | succ j => simp [zAV] at hx hv; exact h2 j x v hx hv
theorem zAV_len (ks : List Nat) (us : List Value) : (zAV ks us).length = us.length := (zAV_rep (S := fun _ => none) ks us).1.symm

/-- How own memory may have gone on. -/
structure Ext (B : Nat) (S : Sto) (H : List Blk) (pl : Pl) (S' : Sto) (H' : List Blk) (pl' : Pl) : Prop where
  new : ∀ a u, S' a = some u → S a = some u ∨ B ≤ a.block
  S : S.le S'
  len : H.length ≤ H'.length
  var : ∀ (k : Nat) cs', k < H.length → H'[k]? = some (.var cs') → ∃ cs, H[k]? = some (.var cs) ∧ pl' k = pl k
  grow : ∀ (k : Nat) e sz ver bv es', k < H.length → H'[k]? = some (.grow e sz ver bv es') → ∃ e0 ver0 bv0 es, H[k]? = some (.grow e0 sz ver0 bv0 es) ∧ ver0 ≤ ver ∧ (ver = ver0 → es'.length = es.length ∧ pl' k = pl k)

theorem Ext.refl {B : Nat} (S : Sto) (H : List Blk) (pl : Pl) : Ext B S H pl S H pl := ⟨fun a u h => .inl h, S.le_refl, Nat.le_refl _, fun k cs hk h => ⟨cs, h, rfl⟩, fun k e sz ver bv es hk h => ⟨e, ver, bv, es, h, Nat.le_refl _, fun _ => ⟨rfl, rfl⟩⟩⟩
theorem Ext.trans {B : Nat} {S S1 S2 : Sto} {H H1 H2 : List Blk} {pl pl1 pl2 : Pl} (h : Ext B S H pl S1 H1 pl1) (k : Ext B S1 H1 pl1 S2 H2 pl2) : Ext B S H pl S2 H2 pl2 := by
  refine ⟨fun a u e => (k.new a u e).elim (fun e => h.new a u e) .inr, Sto.le_trans h.S k.S, Nat.le_trans h.len k.len, fun i cs hi e => ?_, fun i e sz ver bv es hi q => ?_⟩
  · obtain ⟨cs1, e1, p1⟩ := k.var i cs (Nat.lt_of_lt_of_le hi h.len) e
    obtain ⟨cs0, e0, p0⟩ := h.var i cs1 hi e1
    exact ⟨cs0, e0, p1.trans p0⟩
  · obtain ⟨x1, v1, b1, es1, e1, g1, k1⟩ := k.grow i e sz ver bv es (Nat.lt_of_lt_of_le hi h.len) q
    obtain ⟨x0, v0, b0, es0, e0, g0, k0⟩ := h.grow i _ _ _ _ _ hi e1
    refine ⟨x0, v0, b0, es0, e0, Nat.le_trans g0 g1, fun hv => ?_⟩
    have a1 := k1 (by omega)
    have a0 := k0 (by omega)
    exact ⟨a1.1.trans a0.1, a1.2.trans a0.2⟩

theorem Rep.mono {B : Nat} {S S' : Sto} {H H' : List Blk} {pl pl' : Pl} (h : Ext B S H pl S' H' pl') {x u} (r : Rep S H pl x u) : Rep S' H' pl' x u := by
  induction r with
  | val x u r => exact .val x u (r.mono h.S)
  | own id ver u hi h1 k =>
    refine .own id ver u (Nat.lt_of_lt_of_le hi h.len) h1 fun e sz v bv es q => ?_
    obtain ⟨e0, v0, bv0, es0, q0, g, hk⟩ := h.grow id e sz v bv es hi q
    obtain ⟨k1, k2⟩ := k _ _ _ _ _ q0
    refine ⟨Nat.le_trans k1 g, fun hv => ?_⟩
    obtain ⟨l, p⟩ := hk (by omega)
    rw [p, l]
    exact k2 (by omega)
  | gpt id ver i off u hi h1 k =>
    refine .gpt id ver i off u (Nat.lt_of_lt_of_le hi h.len) h1 fun e sz v bv es q => ?_
    obtain ⟨e0, v0, bv0, es0, q0, g, hk⟩ := h.grow id e sz v bv es hi q
    obtain ⟨k1, k2⟩ := k _ _ _ _ _ q0
    refine ⟨Nat.le_trans k1 g, fun hv => ?_⟩
    obtain ⟨l, p⟩ := hk (by omega)
    rw [p]
    exact k2 (by omega)
  | ptr i off u hi h1 k =>
    refine .ptr i off u (Nat.lt_of_lt_of_le hi h.len) h1 fun cs q => ?_
    obtain ⟨cs0, q0, p⟩ := h.var i cs hi q
    rw [p]
    exact k _ q0
  | cut id ver n u hi h1 k =>
    refine .cut id ver n u (Nat.lt_of_lt_of_le hi h.len) h1 fun e sz v bv es q => ?_
    obtain ⟨e0, v0, bv0, es0, q0, g, hk⟩ := h.grow id e sz v bv es hi q
    obtain ⟨k1, k2⟩ := k _ _ _ _ _ q0
    refine ⟨Nat.le_trans k1 g, fun hv => ?_⟩
    obtain ⟨l, p⟩ := hk (by omega)
    rw [p, l]
    exact k2 (by omega)
  | agg cs us hl k ih => exact .agg cs us hl ih
  | tup cs us hl k ih => exact .tup cs us hl ih
  | fn f cs us hl k ih => exact .fn f cs us hl ih
  | ifc t x u k ih => exact .ifc t x u ih

def Blk.lives : Blk → Prop
  | .dead => False
  | _ => True
/-- The block's number of what lives. -/
def live (H : List Blk) (pl : Pl) (k : Nat) (b : Nat) : Prop := (∃ x, H[k]? = some x ∧ x.lives) ∧ ∃ c, pl k = some (b, c)

/-- Own memory as it lies in the world. -/
structure HRel (B : Nat) (S : Sto) (H : List Blk) (pl : Pl) (w : World) : Prop where
  var : ∀ (k : Nat) cs, H[k]? = some (.var cs) → ∃ b c us t, pl k = some (b, c) ∧ B ≤ b ∧ w.heap[b]? = some (.cells us.toArray t (0, 0)) ∧ Cs (Rep S H pl) cs us ∧ ∀ u ∈ us, u.oneCell' = true
  grow : ∀ (k : Nat) e sz ver bv es, H[k]? = some (.grow e sz ver bv es) → 0 < sz ∧ (∀ c ∈ es, c.length = sz) ∧ (pl k = none → es = []) ∧ (bv = true → ∀ c ∈ es, AV.hbs 0 c = true) ∧
    ∃ xs, w.ownsRow B e sz (slv (pl k) es.length) es.length xs ∧ Cs (Rep S H pl) es.flatten xs ∧ ∀ u ∈ xs, u.oneCell' = true
  apart : ∀ k k' b, live H pl k b → live H pl k' b → k = k'
  sep : ∀ a u, S a = some u → ∀ k, ¬ live H pl k a.block

/-- Blocks that others hold: none of them is own memory, nor among what is told to lie as it lies. -/
structure Avd (A : Nat → Prop) (S : Sto) (H : List Blk) (pl : Pl) (w : World) : Prop where
  liv : ∀ k b, live H pl k b → ¬ A b
  sto : ∀ a u, S a = some u → ¬ A a.block
  old : ∀ b, A b → b < w.heap.size
abbrev noA : Nat → Prop := fun _ => False
theorem Avd.none (S : Sto) (H : List Blk) (pl : Pl) (w : World) : Avd noA S H pl w := ⟨fun _ _ _ h => h, fun _ _ _ h => h, fun _ h => h.elim⟩

theorem KeepsOthers.of_below {w w' : World} (h : Below w.heap.size w w') : KeepsOthers w w' := ⟨h.size, fun k o hk _ => (h.block k (Array.getElem?_eq_some_iff.1 hk).1).trans hk⟩
theorem avd_frame {A : Nat → Prop} {S S' : Sto} {H H' : List Blk} {pl pl' : Pl} {w w' : World} (h : Avd A S H pl w) (hw : w.heap.size ≤ w'.heap.size) (hl : ∀ k b, live H' pl' k b → (∃ k0, live H pl k0 b) ∨ w.heap.size ≤ b)
    (hs : ∀ a u, S' a = some u → S a = some u ∨ (∃ k0, live H pl k0 a.block) ∨ w.heap.size ≤ a.block) : Avd A S' H' pl' w' :=
  ⟨fun k b l ha => by
    rcases hl k b l with ⟨k0, l0⟩ | hb
    · exact h.liv k0 b l0 ha
    · have := h.old b ha
      omega, fun a u e ha => by
    rcases hs a u e with e0 | ⟨k0, l0⟩ | hb
    · exact h.sto a u e0 ha
    · exact h.liv k0 _ l0 ha
    · have := h.old _ ha
      omega, fun b hb => Nat.lt_of_lt_of_le (h.old b hb) hw⟩

/-- The whole: own memory, what never turns, and that nothing older has turned. -/
structure WRel (A : Nat → Prop) (G : World → Prop) (B : Nat) (w0 : World) (S : Sto) (H : List Blk) (pl : Pl) (w : World) : Prop where
  h : HRel B S H pl w
  imm : ∀ a u, S a = some u → w.cell? a = some u
  below : Below B w0 w
  base : B ≤ w.heap.size
  g : G w
  keep : KeepsOthers w0 w
  av : Avd A S H pl w
  kp : ∀ b, A b → w.heap[b]? = w0.heap[b]?

theorem WRel.self {A : Nat → Prop} {G : World → Prop} {B : Nat} {w0 w : World} {S : Sto} {H : List Blk} {pl : Pl} (h : WRel A G B w0 S H pl w) : WRel A G B w S H pl w := ⟨h.h, h.imm, Below.refl _ _, h.base, h.g, KeepsOthers.refl _, h.av, fun _ _ => rfl⟩
theorem WRel.rebase {A : Nat → Prop} {G : World → Prop} {B : Nat} {w0 w w' : World} {S S' : Sto} {H H' : List Blk} {pl pl' : Pl} (h : WRel A G B w0 S H pl w) (h' : WRel A G B w S' H' pl' w') : WRel A G B w0 S' H' pl' w' :=
  ⟨h'.h, h'.imm, h.below.trans h'.below, h'.base, h'.g, h.keep.trans h'.keep, h'.av, fun b hb => (h'.kp b hb).trans (h.kp b hb)⟩
/-- What code leaves as it lay. -/
structure Stp (A : Nat → Prop) (w w' : World) : Prop where
  keep : KeepsOthers w w'
  kp : ∀ b, A b → w'.heap[b]? = w.heap[b]?
theorem Stp.refl (A : Nat → Prop) (w : World) : Stp A w w := ⟨KeepsOthers.refl _, fun _ _ => rfl⟩
theorem Stp.trans {A : Nat → Prop} {w w1 w2 : World} (h : Stp A w w1) (k : Stp A w1 w2) : Stp A w w2 := ⟨h.keep.trans k.keep, fun b hb => (k.kp b hb).trans (h.kp b hb)⟩
theorem WRel.stp {A : Nat → Prop} {G : World → Prop} {B : Nat} {w w' : World} {S' : Sto} {H' : List Blk} {pl' : Pl} (h : WRel A G B w S' H' pl' w') : Stp A w w' := ⟨h.keep, h.kp⟩

def TRel (ds : List Deferred) (S : Sto) (H : List Blk) (pl : Pl) (tmps : List AV) (a : Act) : Prop := a.defers = ds ∧ a.tmps.size = tmps.length ∧ ∀ (i : Nat) x u, tmps[i]? = some x → a.tmps[i]? = some u → Rep S H pl x u
end Go.Proofs.Ytkifbcjmmkbilaa.Av
