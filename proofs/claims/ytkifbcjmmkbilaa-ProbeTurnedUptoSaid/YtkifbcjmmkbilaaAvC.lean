/- Calls by a summary: own slices lent for the call, what comes back joined to own memory. -/
import Derived.Test.YtkifbcjmmkbilaaAvQ
set_option linter.unusedVariables false
set_option linter.unusedSimpArgs false
namespace Go.Proofs.Ytkifbcjmmkbilaa.Av
open Go Go.RowKit
variable {P : Program}

/-- A function's summary over plain values: what it answers the call answers, with own memory of its own. -/
def Models (P : Program) (G : World → Prop) (f : Nat) (m : List AV → Option (AV × List Blk)) : Prop :=
  ∀ (S : Sto) (w : World) (as : List AV) (vs : List Value) (r : AV) (Hr : List Blk), Cs (RepV S) as vs → (∀ a u, S a = some u → w.cell? a = some u) → G w → m as = some (r, Hr) →
    Calls P f vs.toArray w fun e w' => ∃ u S' plr, e = .returned u ∧ S.le S' ∧ (∀ a u, S' a = some u → a.block < w.heap.size → S a = some u) ∧ WRel noA G w.heap.size w S' Hr plr w' ∧ Rep S' Hr plr r u

/-- What an iterator does itself between two rounds: it turns blocks that it laid itself, and lays new ones. -/
structure StepR (n0 m : Nat) (W W' : World) : Prop where
  os : W'.os = W.os
  tape : W'.tape = W.tape
  output : W'.output = W.output
  size : W.heap.size ≤ W'.heap.size
  block : ∀ b, b < W.heap.size → (b < n0 ∨ n0 + m ≤ b) → W'.heap[b]? = W.heap[b]?
theorem StepR.of_below {n0 m : Nat} {W W' : World} (h : Below W.heap.size W W') : StepR n0 m W W' := ⟨h.os, h.tape, h.output, h.size, fun b hb _ => h.block b hb⟩
/-- An iterator's summary: what it hands out is a row, told by what it caught. -/
def SeqOk (P : Program) (G : World → Prop) (f : Nat) (q : List AV → Option (List (List AV))) : Prop :=
  ∀ (S : Sto) (caps : List AV) (vs : List Value) (rows : List (List AV)), Cs (RepV S) caps vs → q caps = some rows → ∃ (m : Nat) (encs : Nat → Array Value), (∀ (k : Nat) row, rows[k]? = some row → Cs (RepV S) row (encs k).toList) ∧
    ∀ (dp y : Nat) (J : Nat → World → Prop) (J' : Nat → Nat → World → Prop) (Jx : Nat → World → Prop) (W : World),
      (∀ k W1, J k W1 → (∀ a u, S a = some u → W1.cell? a = some u) ∧ G W1 ∧ W.heap.size ≤ W1.heap.size) →
      (∀ k W1 W2, k < rows.length → J k W1 → StepR W.heap.size m W1 W2 → W.heap.size + m ≤ W2.heap.size → J' W1.heap.size k W2) →
      (∀ p k W1, k < rows.length → J' p k W1 → YieldAt Fence.wide (dp - 1) P y (encs k) W1 fun e W' => (∀ b, (W.heap.size ≤ b ∧ b < W.heap.size + m) ∨ (p ≤ b ∧ b < W1.heap.size) → W'.heap[b]? = W1.heap[b]?) ∧ ((e = .returned (.bool true) ∧ J (k + 1) W') ∨ (e = .returned (.bool false) ∧ Jx (k + 1) W'))) →
      J 0 W →
      CallsIn Fence.wide dp P f (#[.func (.yield y) #[] #[]] ++ vs.toArray) W fun e W' => (∃ v, e = .returned v) ∧ ((∃ W1, J rows.length W1 ∧ StepR W.heap.size m W1 W') ∨ (∃ k W1, k < rows.length ∧ Jx (k + 1) W1 ∧ StepR W.heap.size m W1 W'))

section
variable {S : Sto} {H : List Blk} {pl : Pl} {A : Nat → Prop} {ds : List Deferred} {G : World → Prop} {B : Nat} {w0 w : World}

mutual
theorem hb_val : (x : AV) → ∀ {u : Value}, AV.hb 0 x = true → Rep S H pl x u → RepV S x u
  | .any, u, _, _ => .any u
  | .v x, u, _, r => by rw [r.v_inv]; exact .v x
  | .lst _ _ _ _, u, _, r => by cases r; assumption
  | .z _ _, u, _, r => by cases r; assumption
  | .ept _, u, _, r => by cases r; assumption
  | .own _ _, u, h, _ => by simp [AV.hb] at h
  | .gpt _ _ _ _, u, h, _ => by simp [AV.hb] at h
  | .cut _ _ _, u, h, _ => by simp [AV.hb] at h
  | .ptr _ _, u, h, _ => by simp [AV.hb] at h
  | .agg cs, u, h, r => by
    obtain ⟨us, rfl, k⟩ := r.agg_inv
    have := hbs_val cs (by simpa [AV.hb] using h) k
    exact .agg cs us this.1 this.2
  | .tup cs, u, h, r => by
    obtain ⟨us, rfl, k⟩ := r.tup_inv
    have := hbs_val cs (by simpa [AV.hb] using h) k
    exact .tup cs us this.1 this.2
  | .fn f cs, u, h, r => by
    obtain ⟨us, rfl, k⟩ := r.fn_inv
    have := hbs_val cs (by simpa [AV.hb] using h) k
    exact .fn f cs us this.1 this.2
  | .ifc t x, u, h, r => by
    obtain ⟨v, rfl, k⟩ := r.ifc_inv
    exact .ifc t x v (hb_val x (by simpa [AV.hb] using h) k)
theorem hbs_val : (cs : List AV) → ∀ {us : List Value}, AV.hbs 0 cs = true → Cs (Rep S H pl) cs us → Cs (RepV S) cs us
  | [], us, _, k => by rw [k.nil_inv]; exact Cs.nil
  | x :: cs, us, h, k => by
    obtain ⟨u, us', rfl, hx, kc⟩ := k.tail
    simp [AV.hbs] at h
    exact Cs.cons (hb_val x h.1 hx) (hbs_val cs h.2 kc)
end

mutual
theorem flat_rep {S' : Sto} {H' : List Blk} {pl' : Pl} : (x : AV) → ∀ {u : Value}, AV.flat x = true → Rep S H pl x u → RepV S' x u
  | .v x, u, _, r => by rw [r.v_inv]; exact .v x
  | .agg cs, u, h, r => by
    obtain ⟨us, rfl, k⟩ := r.agg_inv
    have := flats_rep (S' := S') (H' := H') (pl' := pl') cs (by simpa [AV.flat] using h) k
    exact .agg cs us this.1 this.2
  | .tup cs, u, h, r => by
    obtain ⟨us, rfl, k⟩ := r.tup_inv
    have := flats_rep (S' := S') (H' := H') (pl' := pl') cs (by simpa [AV.flat] using h) k
    exact .tup cs us this.1 this.2
  | .ifc t x, u, h, r => by
    obtain ⟨v, rfl, k⟩ := r.ifc_inv
    exact .ifc t x v (flat_rep (H' := H') (pl' := pl') x (by simpa [AV.flat] using h) k)
  | .any, u, h, _ => by simp [AV.flat] at h
  | .lst _ _ _ _, u, h, _ => by simp [AV.flat] at h
  | .z _ _, u, _, r => by cases r; rename_i r; cases r <;> first | exact .znil _ _ | exact .zsome _ _
  | .ept _, u, h, _ => by simp [AV.flat] at h
  | .own _ _, u, h, _ => by simp [AV.flat] at h
  | .gpt _ _ _ _, u, h, _ => by simp [AV.flat] at h
  | .cut _ _ _, u, h, _ => by simp [AV.flat] at h
  | .ptr _ _, u, h, _ => by simp [AV.flat] at h
  | .fn _ _, u, h, _ => by simp [AV.flat] at h
theorem flats_rep {S' : Sto} {H' : List Blk} {pl' : Pl} : (cs : List AV) → ∀ {us : List Value}, AV.flats cs = true → Cs (Rep S H pl) cs us → Cs (RepV S') cs us
  | [], us, _, k => by rw [k.nil_inv]; exact Cs.nil
  | x :: cs, us, h, k => by
    obtain ⟨u, us', rfl, hx, kc⟩ := k.tail
    simp [AV.flats] at h
    exact Cs.cons (flat_rep (H' := H') (pl' := pl') x h.1 hx) (flats_rep (H' := H') (pl' := pl') cs h.2 kc)
end
mutual
theorem flo_rep {S' : Sto} : (x : AV) → ∀ {u : Value}, AV.flo x = true → Rep S H pl x u → Rep S' H pl x u
  | .v _, u, _, r => by rw [r.v_inv]; exact .val _ _ (.v _)
  | .any, u, _, r => .val _ _ (.any _)
  | .own id ver, u, _, r => by
    cases r with
    | val _ _ r => cases r
    | own _ _ _ a b c => exact .own _ _ _ a b c
  | .agg cs, u, h, r => by
    obtain ⟨us, rfl, k⟩ := r.agg_inv
    have := flos_rep (S' := S') cs (by simpa [AV.flo] using h) k
    exact .agg _ _ this.1 this.2
  | .tup cs, u, h, r => by
    obtain ⟨us, rfl, k⟩ := r.tup_inv
    have := flos_rep (S' := S') cs (by simpa [AV.flo] using h) k
    exact .tup _ _ this.1 this.2
  | .ifc t x, u, h, r => by
    obtain ⟨v, rfl, k⟩ := r.ifc_inv
    exact .ifc t x v (flo_rep (S' := S') x (by simpa [AV.flo] using h) k)
  | .lst _ _ _ _, u, h, _ => by simp [AV.flo] at h
  | .z _ _, u, _, r => by cases r; rename_i r; cases r <;> first | exact .val _ _ (.znil _ _) | exact .val _ _ (.zsome _ _)
  | .ept _, u, h, _ => by simp [AV.flo] at h
  | .gpt _ _ _ _, u, h, _ => by simp [AV.flo] at h
  | .cut _ _ _, u, h, _ => by simp [AV.flo] at h
  | .ptr _ _, u, _, r => by
    cases r with
    | val _ _ r => cases r
    | ptr _ _ _ a b c => exact .ptr _ _ _ a b c
  | .fn f cs, u, h, r => by
    obtain ⟨us, rfl, k⟩ := r.fn_inv
    have := flos_rep (S' := S') cs (by simpa [AV.flo] using h) k
    exact .fn _ _ _ this.1 this.2
theorem flos_rep {S' : Sto} : (cs : List AV) → ∀ {us : List Value}, AV.flos cs = true → Cs (Rep S H pl) cs us → Cs (Rep S' H pl) cs us
  | [], us, _, k => by rw [k.nil_inv]; exact Cs.nil
  | x :: cs, us, h, k => by
    obtain ⟨u, us', rfl, hx, kc⟩ := k.tail
    simp [AV.flos] at h
    exact Cs.cons (flo_rep (S' := S') x h.1 hx) (flos_rep (S' := S') cs h.2 kc)
end

theorem HRel.lt (h : HRel B S H pl w) {k b : Nat} (l : live H pl k b) : B ≤ b ∧ b < w.heap.size := by
  obtain ⟨⟨x, hx, hl⟩, c, hc⟩ := l
  cases x with
  | dead => exact hl.elim
  | var cs =>
    obtain ⟨b', c', us, t, hp, hb, hh, _⟩ := h.var k cs hx
    rw [hc] at hp
    obtain ⟨rfl, rfl⟩ := Prod.mk.inj (Option.some.inj hp)
    exact ⟨hb, (Array.getElem?_eq_some_iff.1 hh).1⟩
  | grow e sz ver bv es =>
    obtain ⟨_, _, _, _, xs, ho, _⟩ := h.grow k e sz ver bv es hx
    exact ho.lt b (by rw [slv_some, hc]; rfl)

open Classical in
/-- What never turns while own memory is lent. -/
noncomputable def lend (S : Sto) (H : List Blk) (pl : Pl) (w : World) : Sto := fun a => if ∃ k, live H pl k a.block then w.cell? a else S a
theorem lend_le (h : WRel A G B w0 S H pl w) : S.le (lend S H pl w) := fun a u e => by
  unfold lend
  rw [if_neg (fun ⟨k, l⟩ => h.h.sep a u e k l)]
  exact e
theorem lend_imm (h : WRel A G B w0 S H pl w) : ∀ a u, lend S H pl w a = some u → w.cell? a = some u := fun a u e => by
  unfold lend at e
  split at e
  · exact e
  · exact h.imm a u e

/-- An own list, or its first ones, as it stands now. -/
theorem own_rep (h : WRel A G B w0 S H pl w) {id e' sz ver n : Nat} {es : List (List AV)} (hH : H[id]? = some (.grow e' sz ver true es)) (hle : n ≤ es.length) : RepV (lend S H pl w) (.lst sz n es.length fun i => es.getD i []) (slv (pl id) n) := by
  obtain ⟨h0, hl, hn, hb, xs, ho, hc, h1⟩ := h.h.grow id _ _ _ _ _ hH
  cases hp : pl id with
  | none =>
    obtain rfl := hn hp
    obtain rfl : n = 0 := Nat.le_zero.1 hle
    exact .nil _ _
  | some bc =>
    obtain ⟨b, cap⟩ := bc
    have hlv : ∃ k, live H pl k b := ⟨id, ⟨_, hH, trivial⟩, cap, hp⟩
    have hcap : es.length ≤ cap := by
      rcases ho.2 with ⟨hq, hz⟩ | ⟨g, cap', cur, hq, _, _, hle, _⟩
      · rw [hz]; exact Nat.zero_le _
      · rw [hp] at hq; simp [slv] at hq; rw [hq.2]; exact hle
    have hcell : ∀ i j, i < es.length → j < sz → w.cell? ⟨b, i * sz + j, none⟩ = some (xs.getD (i * sz + j) undef) := fun i j hi hj => by
      have hlt : i * sz + j < xs.length := by
        rw [ho.1]
        calc i * sz + j < i * sz + sz := by omega
          _ = (i + 1) * sz := by rw [Nat.add_mul]; omega
          _ ≤ es.length * sz := Nat.mul_le_mul_right _ hi
      have := ho.cells (g := b) (by rw [slv_some, hp]; rfl) (i * sz + j) _ (List.getElem?_eq_getElem hlt)
      rw [Addr.add_lit, Nat.zero_add] at this
      rw [this]
      simp [List.getD, List.getElem?_eq_getElem hlt]
    refine .lst sz n es.length _ ⟨b, 0, none⟩ cap (fun i j => xs.getD (i * sz + j) undef) hle hcap (fun i hi => ?_) (fun i j hi hj => ?_) (fun i j x hi hx => ?_) (fun i j hi hj => ?_)
    · have : es[i]? = some es[i] := List.getElem?_eq_getElem hi
      simp only [List.getD, this, Option.getD_some]
      exact hl _ (List.mem_of_getElem? this)
    · rw [Addr.add_lit, Nat.zero_add]
      unfold lend
      rw [if_pos hlv]
      exact hcell i j hi hj
    · have hei : es[i]? = some es[i] := List.getElem?_eq_getElem hi
      simp only [List.getD, hei, Option.getD_some] at hx
      have hmem := List.mem_of_getElem? hei
      have hj : j < sz := by rw [← hl _ hmem]; exact (List.getElem?_eq_some_iff.1 hx).1
      have hel := (hc.drop (i * sz)).take sz
      rw [flat_get es sz i _ hl hei] at hel
      have hxs : ((xs.drop (i * sz)).take sz)[j]? = some (xs.getD (i * sz + j) undef) := by
        have hlt : i * sz + j < xs.length := by
          rw [ho.1]
          calc i * sz + j < i * sz + sz := by omega
            _ = (i + 1) * sz := by rw [Nat.add_mul]; omega
            _ ≤ es.length * sz := Nat.mul_le_mul_right _ hi
        rw [List.getElem?_take, if_pos hj, List.getElem?_drop, List.getElem?_eq_getElem hlt]
        simp [List.getD, List.getElem?_eq_getElem hlt]
      exact ((hbs_val _ (hb rfl _ hmem) hel).2 j x _ hx hxs).mono (lend_le h)
    · have hlt : i * sz + j < xs.length := by
        rw [ho.1]
        calc i * sz + j < i * sz + sz := by omega
          _ = (i + 1) * sz := by rw [Nat.add_mul]; omega
          _ ≤ es.length * sz := Nat.mul_le_mul_right _ hi
      refine h1 _ ?_
      simp only [List.getD, List.getElem?_eq_getElem hlt, Option.getD_some]
      exact List.getElem_mem hlt
theorem val1_rep (h : WRel A G B w0 S H pl w) {x y : AV} {u : Value} (e : AV.val1 H x = some y) (r : Rep S H pl x u) : RepV (lend S H pl w) y u := by
  cases x with
  | any => simp only [AV.val1, Option.some.injEq] at e; subst e; exact .any u
  | v x => simp only [AV.val1, Option.some.injEq] at e; subst e; rw [r.v_inv]; exact .v x
  | lst => simp only [AV.val1, Option.some.injEq] at e; subst e; cases r; rename_i r; exact r.mono (lend_le h)
  | ept => simp only [AV.val1, Option.some.injEq] at e; subst e; cases r; rename_i r; exact r.mono (lend_le h)
  | z =>
    simp only [AV.val1, Option.some.injEq] at e
    subst e
    cases r
    rename_i r
    cases r with
    | znil => exact .nil _ _
    | zsome _ a => exact .lst _ _ _ _ a _ (fun _ _ => undef) (Nat.le_refl _) (Nat.le_refl _) (fun i hi => by omega) (fun i j hi => by omega) (fun i j x hi => by omega) (fun i j hi => by omega)
  | own id ver =>
    simp only [AV.val1] at e
    split at e
    · rename_i e' sz ver' es hH
      split at e
      · rename_i hv
        subst hv
        obtain rfl := Option.some.inj e
        have hu : u = slv (pl id) es.length := by
          cases r with
          | val _ _ r => cases r
          | own _ _ _ hi h1 k => exact (k _ _ _ _ _ hH).2 rfl
        subst hu
        exact own_rep h hH (Nat.le_refl _)
      · cases e
    · cases e
  | _ => simp [AV.val1] at e
theorem val1s_rep (h : WRel A G B w0 S H pl w) : (cs : List AV) → ∀ {ds : List AV} {us : List Value}, AV.val1s H cs = some ds → Cs (Rep S H pl) cs us → Cs (RepV (lend S H pl w)) ds us
  | [], ds, us, e, k => by simp [AV.val1s] at e; subst e; rw [k.nil_inv]; exact Cs.nil
  | x :: cs, ds, us, e, k => by
    obtain ⟨u, us', rfl, hx, kc⟩ := k.tail
    simp only [AV.val1s] at e
    cases hp : AV.val1 H x with
    | none => simp [hp] at e
    | some y =>
      cases hq : AV.val1s H cs with
      | none => simp [hp, hq] at e
      | some ys =>
        simp [hp, hq] at e
        subst e
        exact Cs.cons (val1_rep h hp hx) (val1s_rep h cs hq kc)
theorem ptr_rep (h : WRel A G B w0 S H pl w) {k off : Nat} {cs ds : List AV} {u : Value} (hk : H[k]? = some (.var cs)) (hv : AV.val1s H (cs.drop off) = some ds) (r : Rep S H pl (.ptr k off) u) : RepV (lend S H pl w) (.ept ds) u := by
  obtain ⟨b, c, us, t, hp, hB, hh, hc, h1⟩ := h.h.var k cs hk
  have hu : u = .pointer (some ⟨b, off, none⟩) := by
    cases r with
    | val _ _ r => cases r
    | ptr _ _ _ hi h1 q =>
      obtain ⟨b', c', e1, e2⟩ := q _ hk
      rw [hp] at e1
      obtain ⟨rfl, rfl⟩ := Prod.mk.inj (Option.some.inj e1)
      exact e2
  subst hu
  have hd := val1s_rep h _ hv (hc.drop off)
  refine .ept ds _ (fun j => us.getD (off + j) undef) (fun j hj => ?_) (fun j x hx => ?_)
  · have hlt : off + j < us.length := by
      have := hd.1
      rw [List.length_drop] at this
      omega
    unfold lend
    rw [if_pos ⟨k, ⟨_, hk, trivial⟩, c, by rw [Addr.add_lit]; exact hp⟩, Addr.add_lit, cell_of_row w b (off + j) _ _ _ hh]
    simp [List.getD, List.getElem?_eq_getElem hlt]
  · have hj := (List.getElem?_eq_some_iff.1 hx).1
    have hlt : off + j < us.length := by
      have := hd.1
      rw [List.length_drop] at this
      omega
    refine hd.2 j x _ hx ?_
    rw [List.getElem?_drop, List.getElem?_eq_getElem hlt]
    simp [List.getD, List.getElem?_eq_getElem hlt]

mutual
theorem val_rep (h : WRel A G B w0 S H pl w) : (x : AV) → ∀ {y : AV} {u : Value}, AV.val H x = some y → Rep S H pl x u → RepV (lend S H pl w) y u
  | .any, y, u, e, _ => by simp [AV.val] at e; subst e; exact .any u
  | .v x, y, u, e, r => by simp [AV.val] at e; subst e; rw [r.v_inv]; exact .v x
  | .lst _ _ _ _, y, u, e, r => by simp only [AV.val, Option.some.injEq] at e; subst e; cases r; rename_i r; exact r.mono (lend_le h)
  | .z _ _, y, u, e, r => by
    simp only [AV.val, Option.some.injEq] at e
    subst e
    cases r
    rename_i r
    cases r with
    | znil => exact .nil _ _
    | zsome _ a => exact .lst _ _ _ _ a _ (fun _ _ => undef) (Nat.le_refl _) (Nat.le_refl _) (fun i hi => by omega) (fun i j hi => by omega) (fun i j x hi => by omega) (fun i j hi => by omega)
  | .ept _, y, u, e, r => by simp only [AV.val, Option.some.injEq] at e; subst e; cases r; rename_i r; exact r.mono (lend_le h)
  | .gpt _ _ _ _, y, u, e, r => by simp [AV.val] at e
  | .ptr k off, y, u, e, r => by
    simp only [AV.val] at e
    split at e
    · rename_i cs hk
      split at e
      · rename_i ds hd
        obtain rfl := Option.some.inj e
        exact ptr_rep h hk hd r
      · cases e
    · cases e
  | .cut id ver n, y, u, e, r => by
    simp only [AV.val] at e
    split at e
    · rename_i e' sz ver' es hH
      split at e
      · rename_i hv
        subst hv
        obtain rfl := Option.some.inj e
        have hu : n ≤ es.length ∧ u = slv (pl id) n := by
          cases r with
          | val _ _ r => cases r
          | cut _ _ _ _ hi h1 k => exact (k _ _ _ _ _ hH).2 rfl
        obtain ⟨hle, rfl⟩ := hu
        exact own_rep h hH hle
      · cases e
    · cases e
  | .agg cs, y, u, e, r => by
    obtain ⟨us, rfl, k⟩ := r.agg_inv
    simp only [AV.val] at e
    cases hp : AV.vals H cs with
    | none => simp [hp] at e
    | some ds =>
      simp [hp] at e; subst e
      have := vals_rep h cs hp k
      exact .agg ds us this.1 this.2
  | .tup cs, y, u, e, r => by
    obtain ⟨us, rfl, k⟩ := r.tup_inv
    simp only [AV.val] at e
    cases hp : AV.vals H cs with
    | none => simp [hp] at e
    | some ds =>
      simp [hp] at e; subst e
      have := vals_rep h cs hp k
      exact .tup ds us this.1 this.2
  | .fn f cs, y, u, e, r => by
    obtain ⟨us, rfl, k⟩ := r.fn_inv
    simp only [AV.val] at e
    cases hp : AV.vals H cs with
    | none => simp [hp] at e
    | some ds =>
      simp [hp] at e; subst e
      have := vals_rep h cs hp k
      exact .fn f ds us this.1 this.2
  | .ifc t x, y, u, e, r => by
    obtain ⟨v, rfl, k⟩ := r.ifc_inv
    simp only [AV.val] at e
    cases hp : AV.val H x with
    | none => simp [hp] at e
    | some z => simp [hp] at e; subst e; exact .ifc t z v (val_rep h x hp k)
  | .own id ver, y, u, e, r => by
    simp only [AV.val] at e
    cases hH : H[id]? with
    | none => simp [hH] at e
    | some blk =>
      cases blk with
      | var cs => simp [hH] at e
      | dead => simp [hH] at e
      | grow e' sz ver' bv es =>
        cases bv with
        | false => simp [hH] at e
        | true =>
          simp only [hH] at e
          split at e
          · rename_i hv
            subst hv
            obtain rfl := Option.some.inj e
            have hu : u = slv (pl id) es.length := by
              cases r with
              | val _ _ r => cases r
              | own _ _ _ hi h1 k => exact (k _ _ _ _ _ hH).2 rfl
            subst hu
            exact own_rep h hH (Nat.le_refl _)
          · cases e
theorem vals_rep (h : WRel A G B w0 S H pl w) : (cs : List AV) → ∀ {ds : List AV} {us : List Value}, AV.vals H cs = some ds → Cs (Rep S H pl) cs us → Cs (RepV (lend S H pl w)) ds us
  | [], ds, us, e, k => by simp [AV.vals] at e; subst e; rw [k.nil_inv]; exact Cs.nil
  | x :: cs, ds, us, e, k => by
    obtain ⟨u, us', rfl, hx, kc⟩ := k.tail
    simp only [AV.vals] at e
    cases hp : AV.val H x with
    | none => simp [hp] at e
    | some y =>
      cases hq : AV.vals H cs with
      | none => simp [hp, hq] at e
      | some ys => simp [hp, hq] at e; subst e; exact Cs.cons (val_rep h x hp hx) (vals_rep h cs hq kc)
end

mutual
/-- By value already: as it stands. -/
theorem hb_weak {S' : Sto} : (x : AV) → ∀ {y : AV} {u : Value}, AV.hb 0 x = true → AV.val H x = some y → RepV S' x u → RepV S' y u
  | .any, y, u, _, e, r => by simp only [AV.val, Option.some.injEq] at e; subst e; exact r
  | .v _, y, u, _, e, r => by simp only [AV.val, Option.some.injEq] at e; subst e; exact r
  | .lst _ _ _ _, y, u, _, e, r => by simp only [AV.val, Option.some.injEq] at e; subst e; exact r
  | .ept _, y, u, _, e, r => by simp only [AV.val, Option.some.injEq] at e; subst e; exact r
  | .z _ _, y, u, _, e, r => by
    simp only [AV.val, Option.some.injEq] at e
    subst e
    cases r with
    | znil => exact .nil _ _
    | zsome _ a => exact .lst _ _ _ _ a _ (fun _ _ => undef) (Nat.le_refl _) (Nat.le_refl _) (fun i hi => by omega) (fun i j hi => by omega) (fun i j x hi => by omega) (fun i j hi => by omega)
  | .own _ _, y, u, h, _, _ => by simp [AV.hb] at h
  | .gpt _ _ _ _, y, u, h, _, _ => by simp [AV.hb] at h
  | .ptr _ _, y, u, h, _, _ => by simp [AV.hb] at h
  | .agg cs, y, u, h, e, r => by
    simp only [AV.val] at e
    cases hp : AV.vals H cs with
    | none => simp [hp] at e
    | some ds =>
      simp [hp] at e
      subst e
      cases r with
      | agg _ us hl k => have := hbs_weak cs (by simpa [AV.hb] using h) hp ⟨hl, k⟩; exact .agg _ _ this.1 this.2
  | .tup cs, y, u, h, e, r => by
    simp only [AV.val] at e
    cases hp : AV.vals H cs with
    | none => simp [hp] at e
    | some ds =>
      simp [hp] at e
      subst e
      cases r with
      | tup _ us hl k => have := hbs_weak cs (by simpa [AV.hb] using h) hp ⟨hl, k⟩; exact .tup _ _ this.1 this.2
  | .fn f cs, y, u, h, e, r => by
    simp only [AV.val] at e
    cases hp : AV.vals H cs with
    | none => simp [hp] at e
    | some ds =>
      simp [hp] at e
      subst e
      cases r with
      | fn _ _ us hl k => have := hbs_weak cs (by simpa [AV.hb] using h) hp ⟨hl, k⟩; exact .fn _ _ _ this.1 this.2
  | .ifc t x, y, u, h, e, r => by
    simp only [AV.val] at e
    cases hp : AV.val H x with
    | none => simp [hp] at e
    | some d =>
      simp [hp] at e
      subst e
      cases r with
      | ifc _ _ v k => exact .ifc t _ v (hb_weak x (by simpa [AV.hb] using h) hp k)
theorem hbs_weak {S' : Sto} : (cs : List AV) → ∀ {ds : List AV} {us : List Value}, AV.hbs 0 cs = true → AV.vals H cs = some ds → Cs (RepV S') cs us → Cs (RepV S') ds us
  | [], ds, us, _, e, k => by simp [AV.vals] at e; subst e; exact k
  | x :: cs, ds, us, h, e, k => by
    obtain ⟨u, us', rfl, hx, kc⟩ := k.tail
    simp [AV.hbs] at h
    simp only [AV.vals] at e
    cases hp : AV.val H x with
    | none => simp [hp] at e
    | some y =>
      cases hq : AV.vals H cs with
      | none => simp [hp, hq] at e
      | some ys => simp [hp, hq] at e; subst e; exact Cs.cons (hb_weak x h.1 hp hx) (hbs_weak cs h.2 hq kc)
end

/-- Where the joined memory lies. -/
def joinPl (n : Nat) (pl plr : Pl) : Pl := fun k => if k < n then pl k else plr (k - n)

theorem joinPl_new (n j : Nat) (pl plr : Pl) : joinPl n pl plr (n + j) = plr j := by unfold joinPl; rw [if_neg (by omega), Nat.add_sub_cancel_left]

theorem join_old {Hr : List Blk} {k : Nat} (hk : k < H.length) : (H ++ Hr)[k]? = H[k]? := List.getElem?_append_left hk
theorem join_ext {S' : Sto} {Hr : List Blk} {plr : Pl} (hS : S.le S') (hnew : ∀ a u, S' a = some u → S a = some u ∨ B ≤ a.block) : Ext B S H pl S' (H ++ Hr) (joinPl H.length pl plr) :=
  ⟨hnew, hS, by simp, fun k cs hk e => ⟨cs, by rwa [join_old hk] at e, by simp [joinPl, hk]⟩, fun k e sz ver bv es hk q => ⟨e, ver, bv, es, by rwa [join_old hk] at q, Nat.le_refl _, fun _ => ⟨rfl, by simp [joinPl, hk]⟩⟩⟩

theorem shift_blk {Hr : List Blk} {k : Nat} {x : Blk} (h : (H ++ Hr.map (Blk.shift H.length))[H.length + k]? = some x) : ∃ y, Hr[k]? = some y ∧ x = y.shift H.length := by
  rw [List.getElem?_append_right (by omega), Nat.add_sub_cancel_left, List.getElem?_map] at h
  cases hy : Hr[k]? with
  | none => simp [hy] at h
  | some y => simp [hy] at h; exact ⟨y, rfl, h.symm⟩

mutual
theorem shift_rep {S' : Sto} {Hr : List Blk} {plr : Pl} : (x : AV) → ∀ {u : Value}, Rep S' Hr plr x u → Rep S' (H ++ Hr.map (Blk.shift H.length)) (joinPl H.length pl plr) (x.shift H.length) u
  | .any, u, r => .val _ _ (.any u)
  | .v x, u, r => by rw [r.v_inv]; exact .val _ _ (.v x)
  | .lst _ _ _ _, u, r => by cases r; exact .val _ _ (by assumption)
  | .z _ _, u, r => by cases r; exact .val _ _ (by assumption)
  | .ept _, u, r => by cases r; exact .val _ _ (by assumption)
  | .own id ver, u, r => by
    cases r with
    | val _ _ r => cases r
    | own _ _ _ hi h1 k =>
      refine .own _ _ _ (by simp; omega) h1 fun e sz v bv es q => ?_
      rw [Nat.add_comm] at q ⊢
      obtain ⟨y, hy, hq⟩ := shift_blk q
      cases y <;> simp [Blk.shift] at hq
      obtain ⟨rfl, rfl, rfl, rfl, rfl⟩ := hq
      obtain ⟨k1, k2⟩ := k _ _ _ _ _ hy
      refine ⟨k1, fun hv => ?_⟩
      rw [k2 hv]
      simp only [joinPl, if_neg (show ¬ H.length + id < H.length by omega), Nat.add_sub_cancel_left]
      split <;> simp
  | .gpt id ver i off, u, r => by
    cases r with
    | val _ _ r => cases r
    | gpt _ _ _ _ _ hi h1 k =>
      refine .gpt _ _ _ _ _ (by simp; omega) h1 fun e sz v bv es q => ?_
      rw [Nat.add_comm] at q ⊢
      obtain ⟨y, hy, hq⟩ := shift_blk q
      cases y <;> simp [Blk.shift] at hq
      obtain ⟨rfl, rfl, rfl, rfl, rfl⟩ := hq
      obtain ⟨k1, k2⟩ := k _ _ _ _ _ hy
      refine ⟨k1, fun hv => ?_⟩
      obtain ⟨b, c, hp, hu⟩ := k2 hv
      exact ⟨b, c, by simp only [joinPl, if_neg (show ¬ H.length + id < H.length by omega), Nat.add_sub_cancel_left]; exact hp, hu⟩
  | .cut id ver n, u, r => by
    cases r with
    | val _ _ r => cases r
    | cut _ _ _ _ hi h1 k =>
      refine .cut _ _ _ _ (by simp; omega) h1 fun e sz v bv es q => ?_
      rw [Nat.add_comm] at q ⊢
      obtain ⟨y, hy, hq⟩ := shift_blk q
      cases y <;> simp [Blk.shift] at hq
      obtain ⟨rfl, rfl, rfl, rfl, rfl⟩ := hq
      obtain ⟨k1, k2⟩ := k _ _ _ _ _ hy
      refine ⟨k1, fun hv => ?_⟩
      obtain ⟨k3, k4⟩ := k2 hv
      refine ⟨by split <;> simpa using k3, ?_⟩
      rw [k4]
      simp only [joinPl, if_neg (show ¬ H.length + id < H.length by omega), Nat.add_sub_cancel_left]
  | .ptr id off, u, r => by
    cases r with
    | val _ _ r => cases r
    | ptr _ _ _ hi h1 k =>
      refine .ptr _ _ _ (by simp; omega) h1 fun cs q => ?_
      rw [Nat.add_comm] at q ⊢
      obtain ⟨y, hy, hq⟩ := shift_blk q
      cases y <;> simp [Blk.shift] at hq
      obtain ⟨b, c, hp, hu⟩ := k _ hy
      exact ⟨b, c, by simp only [joinPl, if_neg (show ¬ H.length + id < H.length by omega), Nat.add_sub_cancel_left]; exact hp, hu⟩
  | .agg cs, u, r => by
    obtain ⟨us, rfl, k⟩ := r.agg_inv
    have := shifts_rep cs k
    exact .agg _ us this.1 this.2
  | .tup cs, u, r => by
    obtain ⟨us, rfl, k⟩ := r.tup_inv
    have := shifts_rep cs k
    exact .tup _ us this.1 this.2
  | .fn f cs, u, r => by
    obtain ⟨us, rfl, k⟩ := r.fn_inv
    have := shifts_rep cs k
    exact .fn f _ us this.1 this.2
  | .ifc t x, u, r => by
    obtain ⟨v, rfl, k⟩ := r.ifc_inv
    exact .ifc t _ v (shift_rep x k)
theorem shifts_rep {S' : Sto} {Hr : List Blk} {plr : Pl} : (cs : List AV) → ∀ {us : List Value}, Cs (Rep S' Hr plr) cs us → Cs (Rep S' (H ++ Hr.map (Blk.shift H.length)) (joinPl H.length pl plr)) (AV.shifts H.length cs) us
  | [], us, k => by rw [k.nil_inv]; exact Cs.nil
  | x :: cs, us, k => by
    obtain ⟨u, us', rfl, hx, kc⟩ := k.tail
    exact Cs.cons (shift_rep x hx) (shifts_rep cs kc)
end

theorem shifts_length (n : Nat) : ∀ cs : List AV, (AV.shifts n cs).length = cs.length
  | [] => rfl
  | x :: cs => by simp [AV.shifts, shifts_length n cs]
theorem shifts_append (n : Nat) : ∀ cs ds : List AV, AV.shifts n (cs ++ ds) = AV.shifts n cs ++ AV.shifts n ds
  | [], ds => rfl
  | x :: cs, ds => by simp [AV.shifts, shifts_append n cs ds]
theorem shifts_flatten (n : Nat) : ∀ es : List (List AV), (es.map (AV.shifts n)).flatten = AV.shifts n es.flatten
  | [] => rfl
  | c :: es => by simp [shifts_append, shifts_flatten n es]

theorem live_join {S' : Sto} {Hr : List Blk} {plr : Pl} {k b : Nat} (l : live (H ++ Hr.map (Blk.shift H.length)) (joinPl H.length pl plr) k b) : (k < H.length ∧ live H pl k b) ∨ ∃ j, k = H.length + j ∧ live Hr plr j b := by
  obtain ⟨⟨x, hx, hl⟩, c, hc⟩ := l
  by_cases hk : k < H.length
  · refine .inl ⟨hk, ⟨x, by rwa [join_old hk] at hx, hl⟩, c, by simpa [joinPl, hk] using hc⟩
  · obtain ⟨j, rfl⟩ : ∃ j, k = H.length + j := ⟨k - H.length, by omega⟩
    obtain ⟨y, hy, rfl⟩ := shift_blk hx
    refine .inr ⟨j, rfl, ⟨y, hy, ?_⟩, c, ?_⟩
    · cases y <;> simp_all [Blk.shift, Blk.lives]
    · rwa [joinPl_new] at hc

theorem HRel.frame (h : HRel B S H pl w) {w' : World} (hb : Below w.heap.size w w') {S' : Sto} (hS : S.le S') (hsep : ∀ a u, S' a = some u → a.block < w.heap.size → S a = some u) : HRel B S' H pl w' := by
  have hE : Ext 0 S H pl S' H pl := ⟨fun a u _ => .inr (Nat.zero_le _), hS, Nat.le_refl _, fun k cs hk e => ⟨cs, e, rfl⟩, fun k e sz ver bv es hk q => ⟨e, ver, bv, es, q, Nat.le_refl _, fun _ => ⟨rfl, rfl⟩⟩⟩
  refine ⟨fun k cs e => ?_, fun k e sz ver bv es q => ?_, h.apart, fun a u e k l => ?_⟩
  · obtain ⟨b, c, us, t, hp, hB, hh, hc, h1⟩ := h.var k cs e
    exact ⟨b, c, us, t, hp, hB, by rw [hb.block b (Array.getElem?_eq_some_iff.1 hh).1]; exact hh, hc.mono fun x u r => r.mono hE, h1⟩
  · obtain ⟨h0, hl, hn, hbv, xs, ho, hc, h1⟩ := h.grow k e sz ver bv es q
    refine ⟨h0, hl, hn, hbv, xs, ⟨ho.1, ?_⟩, hc.mono fun x u r => r.mono hE, h1⟩
    rcases ho.2 with ho | ⟨g, cap, cur, hv, hB, hg, r⟩
    · exact .inl ho
    · exact .inr ⟨g, cap, cur, hv, hB, by rw [hb.block g (Array.getElem?_eq_some_iff.1 hg).1]; exact hg, r⟩
  · exact h.sep a u (hsep a u e (h.lt l).2) k l

/-- What came back joined to own memory. -/
theorem WRel.join (h : WRel A G B w0 S H pl w) {S' : Sto} {Hr : List Blk} {plr : Pl} {w' : World} (hS : S.le S') (hsep : ∀ a u, S' a = some u → a.block < w.heap.size → S a = some u) (hr : WRel noA G w.heap.size w S' Hr plr w') :
    WRel A G B w0 S' (H ++ Hr.map (Blk.shift H.length)) (joinPl H.length pl plr) w' := by
  have hF := h.h.frame hr.below hS hsep
  refine ⟨⟨fun k cs e => ?_, fun k e sz ver bv es q => ?_, fun k k' b l l' => ?_, fun a u e k l => ?_⟩, hr.imm, h.below.trans (hr.below.mono h.base), Nat.le_trans h.base hr.below.size, hr.g, h.keep.trans (KeepsOthers.of_below hr.below), avd_frame h.av hr.below.size (fun k b l => ?_) (fun a u e => ?_), fun b hb => (hr.below.block b (h.av.old b hb)).trans (h.kp b hb)⟩
  rotate_left 4
  · rcases live_join (S' := S') l with ⟨_, m⟩ | ⟨j, _, m⟩
    · exact .inl ⟨_, m⟩
    · exact .inr (hr.h.lt m).1
  · by_cases hb : a.block < w.heap.size
    · exact .inl (hsep a u e hb)
    · exact .inr (.inr (Nat.le_of_not_lt hb))
  · by_cases hk : k < H.length
    · rw [join_old hk] at e
      obtain ⟨b, c, us, t, hp, hB, hh, hc, h1⟩ := hF.var k cs e
      have hE' : Ext 0 S' H pl S' (H ++ Hr.map (Blk.shift H.length)) (joinPl H.length pl plr) := join_ext S'.le_refl fun a u e => .inl e
      exact ⟨b, c, us, t, by simpa [joinPl, hk] using hp, hB, hh, hc.mono fun x u r => r.mono hE', h1⟩
    · obtain ⟨j, rfl⟩ : ∃ j, k = H.length + j := ⟨k - H.length, by omega⟩
      obtain ⟨y, hy, hq⟩ := shift_blk e
      cases y <;> simp [Blk.shift] at hq
      subst hq
      obtain ⟨b, c, us, t, hp, hB, hh, hc, h1⟩ := hr.h.var j _ hy
      exact ⟨b, c, us, t, by rw [joinPl_new]; exact hp, Nat.le_trans h.base hB, hh, shifts_rep _ hc, h1⟩
  · by_cases hk : k < H.length
    · rw [join_old hk] at q
      obtain ⟨h0, hl, hn, hbv, xs, ho, hc, h1⟩ := hF.grow k e sz ver bv es q
      have hE' : Ext 0 S' H pl S' (H ++ Hr.map (Blk.shift H.length)) (joinPl H.length pl plr) := join_ext S'.le_refl fun a u e => .inl e
      have hpk : joinPl H.length pl plr k = pl k := by simp [joinPl, hk]
      exact ⟨h0, hl, by rw [hpk]; exact hn, hbv, xs, by rw [hpk]; exact ho, hc.mono fun x u r => r.mono hE', h1⟩
    · obtain ⟨j, rfl⟩ : ∃ j, k = H.length + j := ⟨k - H.length, by omega⟩
      obtain ⟨y, hy, hq⟩ := shift_blk q
      cases y <;> simp [Blk.shift] at hq
      rename_i e' sz' ver' bv' es'
      obtain ⟨rfl, rfl, rfl, rfl, rfl⟩ := hq
      obtain ⟨h0, hl, hn, hbv, xs, ho, hc, h1⟩ := hr.h.grow j _ _ _ _ _ hy
      have hpk : joinPl H.length pl plr (H.length + j) = plr j := joinPl_new _ _ _ _
      rw [hpk]
      have ho' : w'.ownsRow B e sz (slv (plr j) es'.length) es'.length xs := by
        refine ⟨ho.1, ?_⟩
        rcases ho.2 with ho | ⟨g, cap, cur, hv, hB, hg, r⟩
        · exact .inl ho
        · exact .inr ⟨g, cap, cur, hv, Nat.le_trans h.base hB, hg, r⟩
      cases bv with
      | true =>
        have hcv : Cs (Rep S' (H ++ Hr.map (Blk.shift H.length)) (joinPl H.length pl plr)) es'.flatten xs :=
          ⟨hc.1, fun i x u hx hu => by
            have hm := List.mem_of_getElem? hx
            obtain ⟨c, hcm, hxc⟩ := List.mem_flatten.1 hm
            obtain ⟨m, hm⟩ := List.mem_iff_getElem?.1 hxc
            have hhb : ∀ (c : List AV), AV.hbs 0 c = true → ∀ x ∈ c, AV.hb 0 x = true := by
              intro c
              induction c with
              | nil => intro _ x hx; cases hx
              | cons y c ih =>
                intro hc x hx
                simp [AV.hbs] at hc
                rcases List.mem_cons.1 hx with rfl | hx
                · exact hc.1
                · exact ih hc.2 x hx
            exact .val _ _ (hb_val x (hhb c (hbv rfl c hcm) x hxc) (hc.2 i x u hx hu))⟩
        rw [if_pos (rfl : true = true)]
        exact ⟨h0, hl, hn, hbv, xs, ho', hcv, h1⟩
      | false =>
        rw [if_neg (by decide : ¬ (false = true))]
        refine ⟨h0, fun c hcm => ?_, (fun hp => by simp [hn hp]), (fun hx => absurd hx (by decide)), xs, by simpa using ho', by rw [shifts_flatten]; exact shifts_rep _ hc, h1⟩
        obtain ⟨d, hd, rfl⟩ := List.mem_map.1 hcm
        rw [shifts_length]
        exact hl d hd
  · rcases live_join (S' := S') l with ⟨hk, m⟩ | ⟨j, rfl, m⟩ <;> rcases live_join (S' := S') l' with ⟨hk', m'⟩ | ⟨j', rfl, m'⟩
    · exact h.h.apart k k' b m m'
    · have h1 := (h.h.lt m).2
      have h2 := (hr.h.lt m').1
      omega
    · have h1 := (h.h.lt m').2
      have h2 := (hr.h.lt m).1
      omega
    · rw [hr.h.apart j j' b m m']
  · rcases live_join (S' := S') l with ⟨hk, m⟩ | ⟨j, rfl, m⟩
    · exact hF.sep a u e k m
    · exact hr.h.sep a u e j m

/-- Plain results hang on nothing that was lent. -/
theorem WRel.unlend {S1 : Sto} {Hr : List Blk} {plr : Pl} {w' : World} (h : WRel A G B w0 S H pl w) (hf : Hr.all Blk.flat = true) (hr : WRel noA G w.heap.size w S1 Hr plr w') : WRel noA G w.heap.size w S Hr plr w' := by
  have hfl : ∀ (k : Nat) e sz ver bv es, Hr[k]? = some (.grow e sz ver bv es) → ∀ c ∈ es, AV.flats c = true := fun k e sz ver bv es hk c hc => by
    have := List.all_eq_true.1 hf _ (List.mem_of_getElem? hk)
    simp only [Blk.flat] at this
    exact List.all_eq_true.1 this c hc
  have hmem : ∀ (c : List AV), AV.flats c = true → ∀ x ∈ c, AV.flat x = true := by
    intro c
    induction c with
    | nil => intro _ x hx; cases hx
    | cons y c ih =>
      intro hc x hx
      simp [AV.flats] at hc
      rcases List.mem_cons.1 hx with rfl | hx
      · exact hc.1
      · exact ih hc.2 x hx
  refine ⟨⟨fun k cs e => ?_, fun k e sz ver bv es q => ?_, hr.h.apart, fun a u e k l => ?_⟩, fun a u e => ?_, hr.below, hr.base, hr.g, hr.keep, Avd.none _ _ _ _, fun b hb => hb.elim⟩
  · have := List.all_eq_true.1 hf _ (List.mem_of_getElem? e)
    simp only [Blk.flat] at this
    obtain ⟨b, c, us, t, hp, hB, hh, hcs, h1⟩ := hr.h.var k cs e
    exact ⟨b, c, us, t, hp, hB, hh, flos_rep cs this hcs, h1⟩
  · obtain ⟨h0, hl, hn, hbv, xs, ho, hc, h1⟩ := hr.h.grow k e sz ver bv es q
    refine ⟨h0, hl, hn, hbv, xs, ho, ⟨hc.1, fun i x u hx hu => ?_⟩, h1⟩
    obtain ⟨c, hcm, hxc⟩ := List.mem_flatten.1 (List.mem_of_getElem? hx)
    exact .val _ _ (flat_rep (H' := Hr) (pl' := plr) x (hmem c (hfl k _ _ _ _ _ q c hcm) x hxc) (hc.2 i x u hx hu))
  · have h1 := (hr.h.lt l).1
    have h2 := World.block_lt_of_cell? w _ (h.imm a u e)
    omega
  · rw [hr.below.cell (World.block_lt_of_cell? w _ (h.imm a u e))]
    exact h.imm a u e

/-- What came back is taken by value: its own memory turns no more. -/
theorem WRel.freeze (hG : ∀ w', Below B w0 w' → G w') (h : WRel A G B w0 S H pl w) {S' : Sto} {Hr : List Blk} {plr : Pl} {w' : World} (hS : S.le S') (hsep : ∀ a u, S' a = some u → a.block < w.heap.size → S a = some u) (hr : WRel noA G w.heap.size w S' Hr plr w') {x y : AV} {u : Value} (hx : Rep S' Hr plr x u) (e : AV.val Hr x = some y) :
    ∃ S2, Ext B S H pl S2 H pl ∧ WRel A G B w0 S2 H pl w' ∧ RepV S2 y u := by
  have hS2 : S.le (lend S' Hr plr w') := Sto.le_trans hS (lend_le hr)
  have hnew : ∀ a v, lend S' Hr plr w' a = some v → a.block < w.heap.size → S a = some v := fun a v e hb => by
    unfold lend at e
    split at e
    · rename_i hl
      obtain ⟨k, l⟩ := hl
      have := (hr.h.lt l).1
      omega
    · exact hsep a v e hb
  refine ⟨lend S' Hr plr w', ⟨fun a v e => if hb : a.block < w.heap.size then .inl (hnew a v e hb) else .inr (Nat.le_trans h.base (Nat.le_of_not_lt hb)), hS2, Nat.le_refl _, fun k cs hk e => ⟨cs, e, rfl⟩, fun k e sz ver bv es hk q => ⟨e, ver, bv, es, q, Nat.le_refl _, fun _ => ⟨rfl, rfl⟩⟩⟩,
    ⟨h.h.frame hr.below hS2 hnew, lend_imm hr, h.below.trans (hr.below.mono h.base), Nat.le_trans h.base hr.below.size, hG _ (h.below.trans (hr.below.mono h.base)), h.keep.trans (KeepsOthers.of_below hr.below), avd_frame h.av hr.below.size (fun k b l => .inl ⟨k, l⟩) (fun a v e => if hb : a.block < w.heap.size then .inl (hnew a v e hb) else .inr (.inr (Nat.le_of_not_lt hb))), fun b hb => (hr.below.block b (h.av.old b hb)).trans (h.kp b hb)⟩, val_rep hr x e hx⟩
end
end Go.Proofs.Ytkifbcjmmkbilaa.Av
