/- Appends; the interpreter's step, whole; rows of operations. -/
import Derived.Test.YtkifbcjmmkbilaaAvI
import Derived.ArgAppend
import Derived.Deep.Upon
import Derived.Deep.AppendSrc
set_option linter.unusedVariables false
set_option linter.unusedSimpArgs false
namespace Go.Proofs.Ytkifbcjmmkbilaa.Av
open Go Go.RowKit
variable {P : Program}
section
variable {S : Sto} {H : List Blk} {pl : Pl} {A : Nat → Prop} {ds : List Deferred} {G : World → Prop} {B : Nat} {w0 w : World} {C : Ctx}

theorem hb_of_val {x : AV} {u : Value} (r : RepV S x u) : AV.hb 0 x = true := by
  have key : ∀ cs : List AV, (∀ (j : Nat) x, cs[j]? = some x → AV.hb 0 x = true) → AV.hbs 0 cs = true := by
    intro cs
    induction cs with
    | nil => intro _; rfl
    | cons y cs ih =>
      intro h
      rw [AV.hbs, h 0 y rfl, ih fun j x hx => h (j + 1) x (by simpa using hx)]
      rfl
  induction r with
  | any | v | nil | lst | ept | znil | zsome => rfl
  | agg cs us hl k ih => exact key cs fun j x hx => ih j x _ hx (List.getElem?_eq_getElem (by rw [hl]; exact (List.getElem?_eq_some_iff.1 hx).1))
  | tup cs us hl k ih => exact key cs fun j x hx => ih j x _ hx (List.getElem?_eq_getElem (by rw [hl]; exact (List.getElem?_eq_some_iff.1 hx).1))
  | fn f cs us hl k ih => exact key cs fun j x hx => ih j x _ hx (List.getElem?_eq_getElem (by rw [hl]; exact (List.getElem?_eq_some_iff.1 hx).1))
  | ifc t x u k ih => exact ih
theorem hbs_of {cs : List AV} (h : ∀ x ∈ cs, AV.hb 0 x = true) : AV.hbs 0 cs = true := by
  induction cs with
  | nil => rfl
  | cons y cs ih => rw [AV.hbs, h y List.mem_cons_self, ih fun x hx => h x (List.mem_cons_of_mem _ hx)]; rfl

theorem Cs.flat {R : AV → Value → Prop} (sz : Nat) (f : Nat → Nat → Value) (get : Nat → List AV) : ∀ (n k : Nat), (∀ i, k ≤ i → i < k + n → (get i).length = sz) → (∀ (i j : Nat) x, k ≤ i → i < k + n → (get i)[j]? = some x → R x (f i j)) →
    Cs R ((List.range' k n).map get).flatten ((List.range' k n).map fun i => (List.range sz).map (f i)).flatten
  | 0, k, _, _ => Cs.nil
  | n + 1, k, hl, hr => by
    rw [List.range'_succ, List.map_cons, List.map_cons, List.flatten_cons, List.flatten_cons]
    refine Cs.append ⟨by simp [hl k (Nat.le_refl _) (by omega)], fun j x u hx hu => ?_⟩ (Cs.flat sz f get n (k + 1) (fun i h1 h2 => hl i (by omega) (by omega)) fun i j x h1 h2 => hr i j x (by omega) (by omega))
    have hj : j < sz := by have := (List.getElem?_eq_some_iff.1 hu).1; simpa using this
    rw [List.getElem?_map, List.getElem?_range hj] at hu
    simp at hu
    subst hu
    exact hr k j x (Nat.le_refl _) (by omega) hx

theorem flat_val (sz : Nat) (h0 : 0 < sz) (f : Nat → Nat → Value) (n : Nat) : ∀ (q : Nat) u, (((List.range n).map fun i => (List.range sz).map (f i)).flatten)[q]? = some u → ∃ i j, i < n ∧ j < sz ∧ q = i * sz + j ∧ u = f i j := by
  induction n with
  | zero => intro q u h; simp at h
  | succ n ih =>
    intro q u h
    rw [List.range_succ, List.map_append, List.flatten_append] at h
    have hl : (((List.range n).map fun i => (List.range sz).map (f i)).flatten).length = n * sz := by
      clear ih h
      induction n with
      | zero => simp
      | succ n ih => rw [List.range_succ, List.map_append, List.flatten_append, List.length_append, ih, Nat.add_mul]; simp
    by_cases hq : q < n * sz
    · rw [List.getElem?_append_left (by omega)] at h
      obtain ⟨i, j, h1, h2, h3, h4⟩ := ih q u h
      exact ⟨i, j, by omega, h2, h3, h4⟩
    · rw [List.getElem?_append_right (by omega), hl] at h
      simp only [List.map_cons, List.map_nil, List.flatten_cons, List.flatten_nil, List.append_nil] at h
      have hj : q - n * sz < sz := by have := (List.getElem?_eq_some_iff.1 h).1; simpa using this
      rw [List.getElem?_map, List.getElem?_range hj] at h
      simp at h
      exact ⟨n, q - n * sz, by omega, hj, by omega, h.symm⟩

theorem appArg_sound (h : WRel A G B w0 S H pl w) {sz : Nat} (h0 : 0 < sz) {x : AV} {u : Value} {new : List (List AV)} {nbv : Bool} (hx : Rep S H pl x u) (e : appArg sz x H = some (new, nbv)) :
    ∃ news, ((u = .slice none 0 0 ∧ new.length = 0 ∧ news = []) ∨ ∃ ad c, u = .slice (some ad) new.length c ∧ ∀ (j : Nat) v, news[j]? = some v → w.cell? (ad.add j) = some v) ∧ news.length = new.length * sz ∧
      Cs (Rep S H pl) new.flatten news ∧ (∀ v ∈ news, v.oneCell' = true) ∧ (∀ c ∈ new, c.length = sz) ∧ (nbv = true → ∀ c ∈ new, AV.hbs 0 c = true) := by
  cases x with
  | lst s n m get =>
    simp only [appArg] at e
    split at e
    · rename_i hs
      subst hs
      simp only [Option.some.injEq, Prod.mk.injEq] at e
      obtain ⟨rfl, rfl⟩ := e
      cases hx with
      | val _ _ r =>
        cases r with
        | nil => exact ⟨[], .inl ⟨rfl, by simp, rfl⟩, by simp, by simpa using Cs.nil, by simp, by simp, by simp⟩
        | lst _ _ _ _ ad cap f hnm hn hl hS hr h1 =>
          have hfl := Cs.flat (R := Rep S H pl) s f get n 0 (fun i _ hi => hl i (by omega)) (fun i j x _ hi hx => .val _ _ (hr i j x (by omega) hx))
          rw [← List.range_eq_range'] at hfl
          have hlen : (((List.range n).map fun i => (List.range s).map (f i)).flatten).length = n * s := by
            clear hfl hl hS hr h1 hn hnm
            induction n with
            | zero => simp
            | succ n ih => rw [List.range_succ, List.map_append, List.flatten_append, List.length_append, ih, Nat.add_mul]; simp
          refine ⟨_, .inr ⟨ad, cap, by simp, fun j v hv => ?_⟩, by simpa using hlen, hfl, fun v hv => ?_, fun c hc => ?_, fun _ c hc => ?_⟩
          · obtain ⟨i, k, hi, hk, rfl, rfl⟩ := flat_val s h0 f n j v hv
            exact h.imm _ _ (hS i k (by omega) hk)
          · obtain ⟨j, hj⟩ := List.mem_iff_getElem?.1 hv
            obtain ⟨i, k, hi, hk, rfl, rfl⟩ := flat_val s h0 f n j v hj
            exact h1 i k (by omega) hk
          · obtain ⟨i, hi, rfl⟩ := List.mem_map.1 hc
            exact hl i (Nat.lt_of_lt_of_le (List.mem_range.1 hi) hnm)
          · obtain ⟨i, hi, rfl⟩ := List.mem_map.1 hc
            have hi := List.mem_range.1 hi
            refine hbs_of fun x hx => ?_
            obtain ⟨j, hj⟩ := List.mem_iff_getElem?.1 hx
            exact hb_of_val (hr i j x (by omega) hj)
    · cases e
  | own id ver =>
    simp only [appArg] at e
    cases hH : H[id]? with
    | none => simp [hH] at e
    | some blk =>
      cases blk with
      | var cs => simp [hH] at e
      | dead => simp [hH] at e
      | grow e' s ver' bv es =>
        simp only [hH] at e
        split at e
        · rename_i hv
          obtain ⟨rfl, rfl⟩ := hv
          simp only [Option.some.injEq, Prod.mk.injEq] at e
          obtain ⟨rfl, rfl⟩ := e
          obtain ⟨_, hl, hn, hbv, xs, ho, hc, h1⟩ := h.h.grow id _ _ _ _ _ hH
          have hu : u = slv (pl id) es.length := by
            cases hx with
            | val _ _ r => cases r
            | own _ _ _ hi _ k => exact (k _ _ _ _ _ hH).2 rfl
          subst hu
          refine ⟨xs, ?_, ho.1, hc, h1, hl, hbv⟩
          cases hp : pl id with
          | none =>
            have := hn hp
            subst this
            exact .inl ⟨rfl, rfl, List.eq_nil_of_length_eq_zero (by simpa using ho.1)⟩
          | some bc => exact .inr ⟨_, _, rfl, ho.cells (g := bc.1) (by rw [slv_some, hp]; rfl)⟩
        · cases e
  | v y =>
    by_cases hy : y = .slice none 0 0
    · subst hy
      simp only [appArg, Option.some.injEq, Prod.mk.injEq] at e
      obtain ⟨rfl, rfl⟩ := e
      have := hx.v_inv
      subst this
      exact ⟨[], .inl ⟨rfl, rfl, rfl⟩, by simp, Cs.nil, by simp, by simp, by simp⟩
    · simp only [appArg] at e
      split at e <;> simp_all
  | z b s =>
    simp only [appArg, Option.some.injEq, Prod.mk.injEq] at e
    obtain ⟨rfl, rfl⟩ := e
    refine ⟨[], ?_, by simp, Cs.nil, by simp, by simp, by simp⟩
    cases hx with
    | val _ _ r => cases r with
      | znil => exact .inl ⟨rfl, rfl, rfl⟩
      | zsome _ ad => exact .inr ⟨ad, 0, rfl, fun j v hv => by simp at hv⟩
  | _ => simp [appArg] at e

/-- What an inlined call owes. -/
def CallOk (P : Program) (C : Ctx) (G : World → Prop) (B : Nat) (call : Nat → List AV → List Blk → Option (AV × List Blk)) : Prop :=
  ∀ n args H r H', call n args H = some (r, H') → (∃ fn, C.fn n = some fn) ∧ ∀ A S pl w vs, Cs (Rep S H pl) args vs → WRel A G B w S H pl w → (∀ w', Below B w w' → G w') →
    Calls P n vs.toArray w fun e w' => ∃ u S' pl', e = .returned u ∧ Ext B S H pl S' H' pl' ∧ WRel A G B w S' H' pl' w' ∧ Rep S' H' pl' r u

theorem exec_append {a : Act} {o : Oper} {c : Call} {t : Nat} {s x : Operand} (ho : o.op = .call c) (hc : c.callee = .builtin .append) (hargs : c.args.toList = [s, x]) (hts : c.argTypes.toList = [t, t]) {v : Value} {w' : World}
    (hr : (Builtin.append_ #[t, t] o.type #[a.eval s, a.eval x]).run P w = .ok v w') : (execOp a.eval o).run P w = .ok (.value v) w' := by
  have ha : c.args = #[s, x] := by rw [← Array.toArray_toList (xs := c.args), hargs]
  have hat : c.argTypes = #[t, t] := by rw [← Array.toArray_toList (xs := c.argTypes), hts]
  simp [execOp, ho, resolve, hc, ha, hat, invoke, builtin, Sem.run_bind, hr]

theorem op_append {tmps : List AV} {a : Act} {o : Oper} {c : Call} {t e sz by_ : Nat} {s x : Operand} {y : AV} {H' : List Blk} (hG : ∀ w', Below B w0 w' → G w') (hT : TdOk P C) (ht : TRel ds S H pl tmps a) (h : WRel A G B w0 S H pl w) (ho : o.op = .call c)
    (hc : c.callee = .builtin .append) (hargs : c.args.toList = [s, x]) (hts : c.argTypes.toList = [t, t]) (htd : C.td t = .sl e sz by_) (q : appendA e sz by_ (evA tmps s) (evA tmps x) H = some (y, H')) : OpW P A G B w0 o a S H pl w y H' := by
  obtain ⟨hu, h0, ⟨i, z, hi, hs, hby, hz, hzs⟩, _⟩ := hT.sl t e sz by_ htd
  unfold appendA at q
  split at q
  · cases q
  · rename_i new nbv hn
    obtain ⟨news, hx, hl, hcs, h1, hel, hbv⟩ := appArg_sound h h0 (ht.ev x) hn
    have hsx := ht.ev s
    split at q
    · rename_i hse
      rw [hse] at hsx
      have hsv := hsx.v_inv
      split at q
      · rename_i hb
        simp only [Option.some.injEq, Prod.mk.injEq] at q
        obtain ⟨rfl, rfl⟩ := q
        obtain ⟨p', w', hr, hown, hgr, hp, hpn⟩ := append_run (B := w.heap.size) (p := none) (n := 0) (xs := []) hu hi hz hs hby hzs h0 (World.ownsRow_nil _ _ _ _) (Nat.le_refl _) hx hl h1 (by simpa using hb.1) (by simpa using hb.2) (ty := o.type)
        simp only [Nat.zero_add, List.nil_append, Option.map_none] at hr hown hgr hpn
        have hbel : Below w.heap.size w w' := ⟨hgr.os, hgr.tape, hgr.output, hgr.size, fun k hk => hgr.block k hk (by simp)⟩
        refine .run (exec_append (v := slv p' new.length) ho hc hargs hts (by rw [hsv]; exact hr)) push_ext (h.push hG hbel (p := p') ⟨h0, hel, fun hp' => List.eq_nil_of_length_eq_zero (hpn hp'), hbv, news, hown, hcs, h1⟩) (.own _ _ _ (by simp) (by cases p' <;> rfl) fun e' sz' v bv es qq => ?_)
        simp at qq
        obtain ⟨rfl, rfl, rfl, rfl, rfl⟩ := qq
        simp [pushPl]
      · cases q
    · rename_i s0 hse
      rw [hse] at hsx
      have hsv : a.eval s = .slice none 0 0 := by
        rcases z_inv hsx with h | ⟨h, _⟩
        · exact h
        · cases h
      split at q
      · rename_i hb
        simp only [Option.some.injEq, Prod.mk.injEq] at q
        obtain ⟨rfl, rfl⟩ := q
        obtain ⟨p', w', hr, hown, hgr, hp, hpn⟩ := append_run (B := w.heap.size) (p := none) (n := 0) (xs := []) hu hi hz hs hby hzs h0 (World.ownsRow_nil _ _ _ _) (Nat.le_refl _) hx hl h1 (by simpa using hb.1) (by simpa using hb.2) (ty := o.type)
        simp only [Nat.zero_add, List.nil_append, Option.map_none] at hr hown hgr hpn
        have hbel : Below w.heap.size w w' := ⟨hgr.os, hgr.tape, hgr.output, hgr.size, fun k hk => hgr.block k hk (by simp)⟩
        refine .run (exec_append (v := slv p' new.length) ho hc hargs hts (by rw [hsv]; exact hr)) push_ext (h.push hG hbel (p := p') ⟨h0, hel, fun hp' => List.eq_nil_of_length_eq_zero (hpn hp'), hbv, news, hown, hcs, h1⟩) (.own _ _ _ (by simp) (by cases p' <;> rfl) fun e' sz' v bv es qq => ?_)
        simp at qq
        obtain ⟨rfl, rfl, rfl, rfl, rfl⟩ := qq
        simp [pushPl]
      · cases q
    · rename_i s0 hse
      rw [hse] at hsx
      split at q
      · rename_i hd
        simp only [Option.some.injEq, Prod.mk.injEq] at q
        obtain ⟨rfl, rfl⟩ := q
        have hn0 : new.length = 0 := of_decide_eq_true hd
        have hnn : news = [] := List.eq_nil_of_length_eq_zero (by rw [hl, hn0, Nat.zero_mul])
        subst hnn
        obtain ⟨ad, hsu⟩ : ∃ ad, a.eval s = .slice ad 0 0 := by
          rcases z_inv hsx with h | ⟨_, ad, h⟩
          · exact ⟨_, h⟩
          · exact ⟨_, h⟩
        have hr : (Builtin.append_ #[t, t] o.type #[a.eval s, a.eval x]).run P w = .ok (a.eval s) w := by
          rw [hsu]
          rcases hx with ⟨hxe, _, _⟩ | ⟨xd, c', hxe, _⟩
          · rw [hxe]; exact run_append_nothing w t t o.type e i hu hi ad 0 0 (Nat.le_refl _) _ (Src.ofNil w hu 0)
          · rw [hxe, hn0]; exact run_append_nothing w t t o.type e i hu hi ad 0 0 (Nat.le_refl _) _ (Src.ofSlice w hu xd 0 c' [] (by simp) (by simp) (by simp))
        refine .still h (u := a.eval s) (exec_append ho hc hargs hts hr) ?_
        rw [hsu]
        cases ad with
        | none => exact .val _ _ (.znil _ _)
        | some ad => exact .val _ _ (.zsome _ _)
      · rename_i hd
        have hn0 : ¬ new.length = 0 := of_decide_eq_false hd
        split at q
        · rename_i hb
          simp only [Option.some.injEq, Prod.mk.injEq] at q
          obtain ⟨rfl, rfl⟩ := q
          have key : ∃ p' w', (Builtin.append_ #[t, t] o.type #[a.eval s, a.eval x]).run P w = .ok (slv p' new.length) w' ∧ w'.ownsRow w.heap.size e sz (slv p' new.length) new.length news ∧ w.grownBy w' none ∧ (p' = none → new.length = 0) := by
            rcases z_inv hsx with hsv | ⟨_, ad, hsv⟩
            · · rw [hsv]
                obtain ⟨p', w', hr, hown, hgr, hp, hpn⟩ := append_run (B := w.heap.size) (p := none) (n := 0) (xs := []) hu hi hz hs hby hzs h0 (World.ownsRow_nil _ _ _ _) (Nat.le_refl _) hx hl h1 (by simpa using hb.1) (by simpa using hb.2) (ty := o.type)
                simp only [Nat.zero_add, List.nil_append, Option.map_none] at hr hown hgr hpn
                exact ⟨p', w', hr, hown, hgr, hpn⟩
            · · rw [hsv]
                rcases hx with ⟨_, hxl, _⟩ | ⟨xd, c', hxe, hcell⟩
                · exact absurd hxl hn0
                · rw [hxe]
                  obtain ⟨v', w', hr, hown, hgr⟩ := run_append_arg_grows (P := P) w t o.type e i z sz by_ hu hi hz hs hby hzs h0 ad 0 0 [] (by simp) (by simp) xd new.length c' news hl hcell (by omega) (by simpa using hb.2) (by simpa using hb.1)
                  simp only [Nat.zero_add, List.nil_append] at hr hown
                  rcases hown.2 with ⟨_, hz0⟩ | ⟨g, cap, cur, hv, _⟩
                  · exact absurd hz0 hn0
                  · subst hv
                    exact ⟨some (g, cap), w', hr, hown, hgr, fun q => by cases q⟩
          obtain ⟨p', w', hr, hown, hgr, hpn⟩ := key
          have hbel : Below w.heap.size w w' := ⟨hgr.os, hgr.tape, hgr.output, hgr.size, fun k hk => hgr.block k hk (by simp)⟩
          refine .run (exec_append (v := slv p' new.length) ho hc hargs hts hr) push_ext (h.push hG hbel (p := p') ⟨h0, hel, fun hp' => List.eq_nil_of_length_eq_zero (hpn hp'), hbv, news, hown, hcs, h1⟩) (.own _ _ _ (by simp) (by cases p' <;> rfl) fun e' sz' v bv es qq => ?_)
          simp at qq
          obtain ⟨rfl, rfl, rfl, rfl, rfl⟩ := qq
          simp [pushPl]
        · cases q
    · rename_i id ver hse
      rw [hse] at hsx
      split at q
      · rename_i e' s' ver' bv es hH
        split at q
        · rename_i hb
          obtain ⟨rfl, rfl, rfl, hb1, hb2⟩ := hb
          simp only [Option.some.injEq, Prod.mk.injEq] at q
          obtain ⟨rfl, rfl⟩ := q
          obtain ⟨_, hel0, hn0, hbv0, xs, ho0, hc0, h10⟩ := h.h.grow id _ _ _ _ _ hH
          have hsu : a.eval s = slv (pl id) es.length := by
            cases hsx with
            | val _ _ r => cases r
            | own _ _ _ hi _ k => exact (k _ _ _ _ _ hH).2 rfl
          obtain ⟨p', w', hr, hown, hgr, hp, hpn⟩ := append_run (B := B) hu hi hz hs hby hzs h0 ho0 h.base hx hl h1 hb1 hb2 (ty := o.type)
          have hkl : id < H.length := (List.getElem?_eq_some_iff.1 hH).1
          have hE : Ext B S H pl S (H.set id (.grow e s' (ver + 1) (bv && nbv) (es ++ new))) (pushPl id pl p') := by
            refine ⟨fun a u e => .inl e, S.le_refl, by simp, fun j cs hj qq => ?_, fun j e2 sz2 ver2 bv2 es2 hj qq => ?_⟩
            · by_cases hjk : j = id
              · subst hjk; rw [List.getElem?_set_self hkl] at qq; cases qq
              · rw [List.getElem?_set_ne (Ne.symm hjk)] at qq; exact ⟨cs, qq, by simp [pushPl, hjk]⟩
            · by_cases hjk : j = id
              · subst hjk
                rw [List.getElem?_set_self hkl] at qq
                cases qq
                exact ⟨e, ver, bv, es, hH, by omega, fun hv => by omega⟩
              · rw [List.getElem?_set_ne (Ne.symm hjk)] at qq; exact ⟨e2, ver2, bv2, es2, qq, Nat.le_refl _, fun _ => ⟨rfl, by simp [pushPl, hjk]⟩⟩
          have hlen : (es ++ new).length = es.length + new.length := List.length_append
          have hone : ∀ u ∈ xs ++ news, u.oneCell' = true := fun u hu => by
            rcases List.mem_append.1 hu with hu | hu
            · exact h10 u hu
            · exact h1 u hu
          refine .run (exec_append (v := slv p' (es.length + new.length)) ho hc hargs hts (by rw [hsu]; exact hr)) hE (h.turn hG hH hE hgr.size hgr.os hgr.tape hgr.output (fun b hbl hne => hgr.block b hbl fun hq => ?_) ⟨h0, ?_, fun hp' => ?_, ?_, xs ++ news, by rw [hlen]; exact hown, by rw [List.flatten_append]; exact hc0.append hcs, hone⟩ hp trivial) (.own _ _ _ (by simpa using hkl) (by cases p' <;> rfl) fun e' sz' v bv' es' qq => ?_)
          · cases hpl : pl id with
            | none => rw [hpl] at hq; simp at hq
            | some bc =>
              rw [hpl] at hq
              simp at hq
              exact hne bc.2 (by rw [hpl, hq])
          · intro c hcm
            rcases List.mem_append.1 hcm with hcm | hcm
            · exact hel0 c hcm
            · exact hel c hcm
          · have := hpn hp'
            exact List.eq_nil_of_length_eq_zero (by rw [hlen]; exact this)
          · intro hbb c hcm
            rw [Bool.and_eq_true] at hbb
            rcases List.mem_append.1 hcm with hcm | hcm
            · exact hbv0 hbb.1 c hcm
            · exact hbv hbb.2 c hcm
          · rw [List.getElem?_set_self hkl] at qq
            cases qq
            refine ⟨Nat.le_refl _, fun _ => ?_⟩
            rw [hlen]
            simp [pushPl]
        · cases q
      · cases q
    · cases q
theorem bytesA_rep : ∀ {cs : List AV} {ns : List Int} {us : List Value}, bytesA cs = some ns → Cs (Rep S H pl) cs us → us = ns.map (Value.int .u8)
  | [], ns, us, e, k => by
    simp only [bytesA, Option.some.injEq] at e
    subst e
    exact k.nil_inv
  | x :: cs, ns, us, e, k => by
    obtain ⟨u, us', rfl, hx, kc⟩ := k.tail
    unfold bytesA at e
    split at e
    · rename_i h; cases h
    · rename_i n r h
      cases h
      split at e
      · rename_i ms hm
        obtain rfl := Option.some.inj e
        rw [hx.v_inv, bytesA_rep hm kc]
        rfl
      · cases e
    · cases e
theorem op_conv {tmps : List AV} {a : Act} {o : Oper} {src dst : Nat} {x : Operand} {y : AV} (hT : TdOk P C) (ht : TRel ds S H pl tmps a) (h : WRel A G B w0 S H pl w) (ho : o.op = .convert src dst x)
    (e : convA (C.td src) (C.td dst) (C.td (C.td src).elem) (evA tmps x) H = some y) : OpW P A G B w0 o a S H pl w y H := by
  have hx := ht.ev x
  unfold convA at e
  split at e
  · rename_i e' by' z z' h1 h2 h3
    rw [h1] at h3
    split at e
    · rename_i new bv hn
      split at e
      · rename_i ns hns
        obtain rfl := Option.some.inj e
        obtain ⟨hu1, _⟩ := hT.sl src _ _ _ h1
        obtain ⟨⟨d2, hu2, _, hk2⟩, _⟩ := hT.one dst _ h2
        obtain ⟨⟨d3, hu3, _, hk3⟩, _⟩ := hT.one _ _ h3
        have e2 : d2 = .string := hk2
        have e3 : d3 = .int .u8 := hk3
        subst e2
        subst e3
        obtain ⟨news, hsl, hlen, hcs, _⟩ := appArg_sound h (by omega) hx hn
        have hnews := bytesA_rep hns hcs
        subst hnews
        refine .still h (u := .string (bytesOf ns)) ?_ (.val _ _ (.v _))
        rcases hsl with ⟨hu, hl0, hz⟩ | ⟨ad, c, hu, hcell⟩
        · have : ns = [] := by simpa using hz
          subst this
          simp [execOp, ho, hu, run_convert_bytes_string w src dst _ none 0 0 hu1 hu3 hu2, Conv.bytesToString, bytesOf]
        · have hl : (loadCells ad new.length).run P w = .ok (ns.map (Value.int .u8)).toArray w := by
            have := run_loadCells_list (P := P) w ad (ns.map (Value.int .u8)) hcell
            rw [hlen] at this
            simpa using this
          simp only [execOp, ho, hu]
          rw [Sem.run_bind, run_convert_bytes_string w src dst _ (some ad) new.length c hu1 hu3 hu2, run_bytesToString w ad new.length c ns hl]
          rfl
      · cases e
    · cases e
  · cases e

/-- Alone of all own memory. -/
def only (n id : Nat) (b : Blk) : List Blk := (List.replicate n Blk.dead).set id b
theorem only_get {n id k : Nat} {b x : Blk} (h : (only n id b)[k]? = some x) : (k = id ∧ x = b) ∨ x = .dead := by
  unfold only at h
  rw [List.getElem?_set] at h
  split at h
  · split at h
    · exact .inl ⟨by omega, (Option.some.inj h).symm⟩
    · cases h
  · rw [List.getElem?_replicate] at h
    split at h
    · exact .inr (Option.some.inj h).symm
    · cases h
theorem hbs_flat : ∀ (es : List (List AV)), (∀ c ∈ es, AV.hbs 0 c = true) → AV.hbs 0 es.flatten = true
  | [], _ => rfl
  | c :: es, h => by
    rw [List.flatten_cons, hbs_append, h c List.mem_cons_self, hbs_flat es (fun d hd => h d (List.mem_cons_of_mem _ hd))]
    rfl
theorem dead_get {id k : Nat} {x : Blk} (hx : (H.set id .dead)[k]? = some x) (hl : x.lives) : k ≠ id ∧ H[k]? = some x := by
  rw [List.getElem?_set] at hx
  split at hx
  · split at hx
    · obtain rfl := Option.some.inj hx
      exact hl.elim
    · cases hx
  · rename_i hk
    exact ⟨fun q => hk q.symm, hx⟩
/-- An own slice is let go of: from here on it never turns. -/
theorem freeze (h : WRel A G B w0 S H pl w) {id e sz v : Nat} {es : List (List AV)} (hH : H[id]? = some (.grow e sz v true es)) {u : Value} (hx : Rep S H pl (.own id v) u) :
    ∃ S', Ext B S H pl S' (H.set id .dead) pl ∧ WRel A G B w0 S' (H.set id .dead) pl w ∧ RepV S' (.lst sz es.length es.length fun i => es.getD i []) u := by
  have hid : id < H.length := (List.getElem?_eq_some_iff.1 hH).1
  have hg1 : (only H.length id (.grow e sz v true es))[id]? = some (.grow e sz v true es) := by
    unfold only
    rw [List.getElem?_set, if_pos rfl, if_pos (by simpa using hid)]
  have hl1 : ∀ k b, live (only H.length id (.grow e sz v true es)) pl k b → k = id ∧ live H pl k b := fun k b ⟨⟨x, hx, hl⟩, hc⟩ => by
    rcases only_get hx with ⟨rfl, rfl⟩ | rfl
    · exact ⟨rfl, ⟨_, hH, hl⟩, hc⟩
    · exact hl.elim
  have h1 : WRel A G B w0 S (only H.length id (.grow e sz v true es)) pl w := by
    refine ⟨⟨fun k cs hk => ?_, fun k e' sz' ver bv es' hk => ?_, fun k k' b l l' => (hl1 k b l).1.trans (hl1 k' b l').1.symm, fun a u ha k l => h.h.sep a u ha k (hl1 k _ l).2⟩, h.imm, h.below, h.base, h.g, h.keep, avd_frame h.av (Nat.le_refl _) (fun k b l => .inl ⟨k, (hl1 k b l).2⟩) (fun a u e => .inl e), h.kp⟩
    · rcases only_get hk with ⟨_, q⟩ | q <;> cases q
    · rcases only_get hk with ⟨rfl, q⟩ | q
      · cases q
        obtain ⟨a1, a2, a3, a4, xs, a5, a6, a7⟩ := h.h.grow _ _ _ _ _ _ hH
        exact ⟨a1, a2, a3, a4, xs, a5, (hbs_val _ (hbs_flat _ (a4 rfl)) a6).mono fun x u r => .val _ _ r, a7⟩
      · cases q
  have hx1 : Rep S (only H.length id (.grow e sz v true es)) pl (.own id v) u := by
    cases hx with
    | val _ _ r => cases r
    | own _ _ _ hi q k =>
      exact .own _ _ _ (by unfold only; simpa using hid) q fun e' sz' v' bv' es' hk => by
        rw [hg1] at hk
        cases hk
        exact k _ _ _ _ _ hH
  have hla : ∀ a u, lend S (only H.length id (.grow e sz v true es)) pl w a = some u → S a = some u ∨ (∃ k0, live H pl k0 a.block) ∨ w.heap.size ≤ a.block := fun a u ha => by
    unfold lend at ha
    split at ha
    · rename_i hk
      obtain ⟨k, l⟩ := hk
      exact .inr (.inl ⟨k, (hl1 _ _ l).2⟩)
    · exact .inl ha
  have hE : Ext B S H pl (lend S (only H.length id (.grow e sz v true es)) pl w) (H.set id .dead) pl := by
    refine ⟨fun a u ha => ?_, lend_le h1, by simp, fun k cs hk q => ⟨cs, (dead_get q trivial).2, rfl⟩, fun k e' sz' ver bv es' hk q => ⟨e', ver, bv, es', (dead_get q trivial).2, Nat.le_refl _, fun _ => ⟨rfl, rfl⟩⟩⟩
    unfold lend at ha
    split at ha
    · rename_i hk
      obtain ⟨k, l⟩ := hk
      exact .inr (h1.h.lt l).1
    · exact .inl ha
  refine ⟨_, hE, ⟨⟨fun k cs hk => ?_, fun k e' sz' ver bv es' hk => ?_, fun k k' b l l' => ?_, fun a u ha k l => ?_⟩, lend_imm h1, h.below, h.base, h.g, h.keep, avd_frame h.av (Nat.le_refl _) (fun k b ⟨⟨x, hx, hl⟩, hc⟩ => .inl ⟨k, ⟨x, (dead_get hx hl).2, hl⟩, hc⟩) hla, h.kp⟩, val_rep h1 _ (by simp only [AV.val, hg1, if_true]) hx1⟩
  · obtain ⟨b, c, us, t, a1, a2, a3, a4, a5⟩ := h.h.var k cs (dead_get hk trivial).2
    exact ⟨b, c, us, t, a1, a2, a3, a4.mono fun x u r => r.mono hE, a5⟩
  · obtain ⟨a1, a2, a3, a4, xs, a5, a6, a7⟩ := h.h.grow _ _ _ _ _ _ (dead_get hk trivial).2
    exact ⟨a1, a2, a3, a4, xs, a5, a6.mono fun x u r => r.mono hE, a7⟩
  · obtain ⟨⟨x, hx, hl⟩, hc⟩ := l
    obtain ⟨⟨x', hx', hl'⟩, hc'⟩ := l'
    exact h.h.apart k k' b ⟨⟨x, (dead_get hx hl).2, hl⟩, hc⟩ ⟨⟨x', (dead_get hx' hl').2, hl'⟩, hc'⟩
  · obtain ⟨⟨x, hx, hl⟩, hc⟩ := l
    obtain ⟨hne, hx0⟩ := dead_get hx hl
    unfold lend at ha
    split at ha
    · rename_i hk
      obtain ⟨k', l'⟩ := hk
      obtain ⟨rfl, l0⟩ := hl1 _ _ l'
      exact hne (h.h.apart k k' _ ⟨⟨x, hx0, hl⟩, hc⟩ l0)
    · exact h.h.sep a u ha k ⟨⟨x, hx0, hl⟩, hc⟩
/-- .. whoever holds it. -/
theorem freezes (h : WRel A G B w0 S H pl w) {id e sz v : Nat} {es : List (List AV)} (hH : H[id]? = some (.grow e sz v true es)) :
    ∃ S', Ext B S H pl S' (H.set id .dead) pl ∧ WRel A G B w0 S' (H.set id .dead) pl w ∧ ∀ u, Rep S H pl (.own id v) u → RepV S' (.lst sz es.length es.length fun i => es.getD i []) u := by
  have hid : id < H.length := (List.getElem?_eq_some_iff.1 hH).1
  have hg1 : (only H.length id (.grow e sz v true es))[id]? = some (.grow e sz v true es) := by
    unfold only
    rw [List.getElem?_set, if_pos rfl, if_pos (by simpa using hid)]
  have hl1 : ∀ k b, live (only H.length id (.grow e sz v true es)) pl k b → k = id ∧ live H pl k b := fun k b ⟨⟨x, hx, hl⟩, hc⟩ => by
    rcases only_get hx with ⟨rfl, rfl⟩ | rfl
    · exact ⟨rfl, ⟨_, hH, hl⟩, hc⟩
    · exact hl.elim
  have h1 : WRel A G B w0 S (only H.length id (.grow e sz v true es)) pl w := by
    refine ⟨⟨fun k cs hk => ?_, fun k e' sz' ver bv es' hk => ?_, fun k k' b l l' => (hl1 k b l).1.trans (hl1 k' b l').1.symm, fun a u ha k l => h.h.sep a u ha k (hl1 k _ l).2⟩, h.imm, h.below, h.base, h.g, h.keep, avd_frame h.av (Nat.le_refl _) (fun k b l => .inl ⟨k, (hl1 k b l).2⟩) (fun a u e => .inl e), h.kp⟩
    · rcases only_get hk with ⟨_, q⟩ | q <;> cases q
    · rcases only_get hk with ⟨rfl, q⟩ | q
      · cases q
        obtain ⟨a1, a2, a3, a4, xs, a5, a6, a7⟩ := h.h.grow _ _ _ _ _ _ hH
        exact ⟨a1, a2, a3, a4, xs, a5, (hbs_val _ (hbs_flat _ (a4 rfl)) a6).mono fun x u r => .val _ _ r, a7⟩
      · cases q
  have hx1 : ∀ u, Rep S H pl (.own id v) u → Rep S (only H.length id (.grow e sz v true es)) pl (.own id v) u := fun u hx => by
    cases hx with
    | val _ _ r => cases r
    | own _ _ _ hi q k =>
      exact .own _ _ _ (by unfold only; simpa using hid) q fun e' sz' v' bv' es' hk => by
        rw [hg1] at hk
        cases hk
        exact k _ _ _ _ _ hH
  have hla : ∀ a u, lend S (only H.length id (.grow e sz v true es)) pl w a = some u → S a = some u ∨ (∃ k0, live H pl k0 a.block) ∨ w.heap.size ≤ a.block := fun a u ha => by
    unfold lend at ha
    split at ha
    · rename_i hk
      obtain ⟨k, l⟩ := hk
      exact .inr (.inl ⟨k, (hl1 _ _ l).2⟩)
    · exact .inl ha
  have hE : Ext B S H pl (lend S (only H.length id (.grow e sz v true es)) pl w) (H.set id .dead) pl := by
    refine ⟨fun a u ha => ?_, lend_le h1, by simp, fun k cs hk q => ⟨cs, (dead_get q trivial).2, rfl⟩, fun k e' sz' ver bv es' hk q => ⟨e', ver, bv, es', (dead_get q trivial).2, Nat.le_refl _, fun _ => ⟨rfl, rfl⟩⟩⟩
    unfold lend at ha
    split at ha
    · rename_i hk
      obtain ⟨k, l⟩ := hk
      exact .inr (h1.h.lt l).1
    · exact .inl ha
  refine ⟨_, hE, ⟨⟨fun k cs hk => ?_, fun k e' sz' ver bv es' hk => ?_, fun k k' b l l' => ?_, fun a u ha k l => ?_⟩, lend_imm h1, h.below, h.base, h.g, h.keep, avd_frame h.av (Nat.le_refl _) (fun k b ⟨⟨x, hx, hl⟩, hc⟩ => .inl ⟨k, ⟨x, (dead_get hx hl).2, hl⟩, hc⟩) hla, h.kp⟩, fun u hx => val_rep h1 _ (by simp only [AV.val, hg1, if_true]) (hx1 u hx)⟩
  · obtain ⟨b, c, us, t, a1, a2, a3, a4, a5⟩ := h.h.var k cs (dead_get hk trivial).2
    exact ⟨b, c, us, t, a1, a2, a3, a4.mono fun x u r => r.mono hE, a5⟩
  · obtain ⟨a1, a2, a3, a4, xs, a5, a6, a7⟩ := h.h.grow _ _ _ _ _ _ (dead_get hk trivial).2
    exact ⟨a1, a2, a3, a4, xs, a5, a6.mono fun x u r => r.mono hE, a7⟩
  · obtain ⟨⟨x, hx, hl⟩, hc⟩ := l
    obtain ⟨⟨x', hx', hl'⟩, hc'⟩ := l'
    exact h.h.apart k k' b ⟨⟨x, (dead_get hx hl).2, hl⟩, hc⟩ ⟨⟨x', (dead_get hx' hl').2, hl'⟩, hc'⟩
  · obtain ⟨⟨x, hx, hl⟩, hc⟩ := l
    obtain ⟨hne, hx0⟩ := dead_get hx hl
    unfold lend at ha
    split at ha
    · rename_i hk
      obtain ⟨k', l'⟩ := hk
      obtain ⟨rfl, l0⟩ := hl1 _ _ l'
      exact hne (h.h.apart k k' _ ⟨⟨x, hx0, hl⟩, hc⟩ l0)
    · exact h.h.sep a u ha k ⟨⟨x, hx0, hl⟩, hc⟩
theorem Ext.swap (S : Sto) (H : List Blk) (pl : Pl) (id ver : Nat) (y : AV) : Ext B S H pl S (H.map (Blk.swap id ver y)) pl := by
  refine ⟨fun a u h => .inl h, S.le_refl, by simp, fun k cs' hk e => ?_, fun k e sz v bv es hk q => ?_⟩
  · rw [List.getElem?_map] at e
    cases hb : H[k]? with
    | none => rw [hb] at e; cases e
    | some b =>
      rw [hb] at e
      cases b with
      | var cs => exact ⟨cs, rfl, rfl⟩
      | grow => cases e
      | dead => cases e
  · rw [List.getElem?_map] at q
    cases hb : H[k]? with
    | none => rw [hb] at q; cases q
    | some b =>
      rw [hb] at q
      cases b with
      | var cs => cases q
      | grow => cases q; exact ⟨_, _, _, _, rfl, Nat.le_refl _, fun _ => ⟨rfl, rfl⟩⟩
      | dead => cases q
theorem swap_get {H : List Blk} {id ver : Nat} {y : AV} {k : Nat} {b : Blk} (h : (H.map (Blk.swap id ver y))[k]? = some b) : ∃ b0, H[k]? = some b0 ∧ b = b0.swap id ver y := by
  rw [List.getElem?_map] at h
  cases hb : H[k]? with
  | none => rw [hb] at h; cases h
  | some b0 => rw [hb] at h; exact ⟨b0, rfl, (Option.some.inj h).symm⟩
/-- What holds a slice that was let go of now holds it by value. -/
theorem swap_W (h : WRel A G B w0 S H pl w) {S' : Sto} {H' : List Blk} {id ver : Nat} {y : AV} (hE : Ext B S H pl S' H' pl) (hW : WRel A G B w0 S' H' pl w) (hv : ∀ (k : Nat) cs, H'[k]? = some (.var cs) → H[k]? = some (.var cs)) (hy : ∀ u, Rep S H pl (.own id ver) u → RepV S' y u) :
    WRel A G B w0 S' (H'.map (Blk.swap id ver y)) pl w := by
  have hE2 := Ext.swap (B := B) S' H' pl id ver y
  have hl : ∀ k b, live (H'.map (Blk.swap id ver y)) pl k b → live H' pl k b := fun k b ⟨⟨x, hx, hl⟩, hc⟩ => by
    obtain ⟨b0, h0, rfl⟩ := swap_get hx
    exact ⟨⟨b0, h0, by cases b0 <;> exact hl⟩, hc⟩
  refine ⟨⟨fun k cs hk => ?_, fun k e' sz' v bv es hk => ?_, fun k k' b l l' => hW.h.apart k k' b (hl _ _ l) (hl _ _ l'), fun a u ha k l => hW.h.sep a u ha k (hl _ _ l)⟩, hW.imm, hW.below, hW.base, hW.g, hW.keep, avd_frame hW.av (Nat.le_refl _) (fun k b l => .inl ⟨k, hl _ _ l⟩) (fun a u e => .inl e), hW.kp⟩
  · obtain ⟨b0, h0, e⟩ := swap_get hk
    cases b0 with
    | var cs0 =>
      cases e
      obtain ⟨b, c, us, t, a1, a2, a3, a4, a5⟩ := h.h.var k cs0 (hv k cs0 h0)
      refine ⟨b, c, us, t, a1, a2, a3, ⟨by rw [a4.1, List.length_map], fun j x u hx hu => ?_⟩, a5⟩
      rw [List.getElem?_map] at hx
      cases hx0 : cs0[j]? with
      | none => rw [hx0] at hx; cases hx
      | some x0 =>
        rw [hx0] at hx
        obtain rfl := Option.some.inj hx
        have hr := a4.2 j x0 u hx0 hu
        cases x0 with
        | own i v =>
          simp only [AV.swap]
          split
          · rename_i hq
            obtain ⟨rfl, rfl⟩ := hq
            exact .val _ _ (hy u hr)
          · exact (hr.mono hE).mono hE2
        | _ => exact (hr.mono hE).mono hE2
    | grow => cases e
    | dead => cases e
  · obtain ⟨b0, h0, e⟩ := swap_get hk
    cases b0 with
    | var => cases e
    | grow =>
      cases e
      obtain ⟨a1, a2, a3, a4, xs, a5, a6, a7⟩ := hW.h.grow _ _ _ _ _ _ h0
      exact ⟨a1, a2, a3, a4, xs, a5, a6.mono fun x u r => r.mono hE2, a7⟩
    | dead => cases e
theorem frz_sound (h : WRel A G B w0 S H pl w) (x : AV) {u : Value} (hx : Rep S H pl x u) : ∃ S', Ext B S H pl S' (frz H x).2 pl ∧ WRel A G B w0 S' (frz H x).2 pl w ∧ Rep S' (frz H x).2 pl (frz H x).1 u := by
  cases x with
  | own id ver =>
    simp only [frz]
    split
    · rename_i e sz v es hH
      split
      · rename_i hv
        subst hv
        obtain ⟨S', hE, hW, hR⟩ := freezes h hH
        exact ⟨S', hE.trans (Ext.swap _ _ _ _ _ _), swap_W h hE hW (fun k cs hk => (dead_get hk trivial).2) hR, .val _ _ (hR _ hx)⟩
      · exact ⟨S, Ext.refl _ _ _, h, hx⟩
    · exact ⟨S, Ext.refl _ _ _, h, hx⟩
  | z b sz =>
    refine ⟨S, Ext.refl _ _ _, h, ?_⟩
    cases hx with
    | val _ _ r => cases r with
      | znil => exact .val _ _ (.nil _ _)
      | zsome _ a => exact .val _ _ (.lst _ _ _ _ a _ (fun _ _ => undef) (Nat.le_refl _) (Nat.le_refl _) (fun i hi => by omega) (fun i j hi => by omega) (fun i j x hi => by omega) (fun i j hi => by omega))
  | _ => exact ⟨S, Ext.refl _ _ _, h, hx⟩
theorem frzs_sound : ∀ (cs : List AV) (us : List Value) {S : Sto} {H : List Blk}, WRel A G B w0 S H pl w → Cs (Rep S H pl) cs us → ∃ S', Ext B S H pl S' (frzs cs H).2 pl ∧ WRel A G B w0 S' (frzs cs H).2 pl w ∧ Cs (Rep S' (frzs cs H).2 pl) (frzs cs H).1 us
  | [], us, S, H, h, hc => by
    obtain rfl := hc.nil_inv
    exact ⟨S, Ext.refl _ _ _, h, Cs.nil⟩
  | x :: cs, us, S, H, h, hc => by
    obtain ⟨u, us', rfl, h1, h2⟩ := hc.tail
    obtain ⟨S1, hE1, hW1, hR1⟩ := frz_sound h x h1
    obtain ⟨S2, hE2, hW2, hR2⟩ := frzs_sound cs us' hW1 (h2.mono fun x u r => r.mono hE1)
    exact ⟨S2, hE1.trans hE2, hW2, Cs.cons (hR1.mono hE2) hR2⟩
theorem frzK_sound (k : Nat) {s : St} {a : Act} (ht : TRel ds S s.H pl s.tmps a) (h : WRel A G B w0 S s.H pl w) : ∃ S', Ext B S s.H pl S' (frzK k s).H pl ∧ WRel A G B w0 S' (frzK k s).H pl w ∧ TRel ds S' (frzK k s).H pl (frzK k s).tmps a := by
  unfold frzK
  split
  · rename_i e sz v es hH
    obtain ⟨S', hE, hW, hR⟩ := freezes h hH
    refine ⟨S', hE.trans (Ext.swap _ _ _ _ _ _), swap_W h hE hW (fun k cs hk => (dead_get hk trivial).2) hR, ht.1, by rw [ht.2.1, List.length_map], fun i x u hx hu => ?_⟩
    have hE2 := hE.trans (Ext.swap (B := B) S' (s.H.set k .dead) pl k v (.lst sz es.length es.length (fun i => es.getD i [])))
    rw [List.getElem?_map] at hx
    cases hx0 : s.tmps[i]? with
    | none => rw [hx0] at hx; cases hx
    | some x0 =>
      rw [hx0] at hx
      obtain rfl := Option.some.inj hx
      have hr := ht.2.2 i x0 u hx0 hu
      cases x0 with
      | own i v =>
        simp only [AV.swap]
        split
        · rename_i hq
          obtain ⟨rfl, rfl⟩ := hq
          exact .val _ _ (hR u hr)
        · exact hr.mono hE2
      | _ => exact hr.mono hE2
  · exact ⟨S, Ext.refl _ _ _, h, ht⟩
theorem frzK_base (k : Nat) (s : St) : (frzK k s).base = s.base := by unfold frzK; split <;> rfl
theorem frzA_base : ∀ (l : List Nat) (s : St), (frzA l s).base = s.base
  | [], _ => rfl
  | k :: r, s => (frzA_base r _).trans (frzK_base k s)
theorem frzA_sound : ∀ (l : List Nat) {S : Sto} {s : St} {a : Act}, TRel ds S s.H pl s.tmps a → WRel A G B w0 S s.H pl w → ∃ S', Ext B S s.H pl S' (frzA l s).H pl ∧ WRel A G B w0 S' (frzA l s).H pl w ∧ TRel ds S' (frzA l s).H pl (frzA l s).tmps a
  | [], S, s, a, ht, h => ⟨S, Ext.refl _ _ _, h, ht⟩
  | k :: r, S, s, a, ht, h => by
    obtain ⟨S1, hE1, hW1, ht1⟩ := frzK_sound k ht h
    obtain ⟨S2, hE2, hW2, ht2⟩ := frzA_sound r ht1 hW1
    exact ⟨S2, hE1.trans hE2, hW2, ht2⟩
theorem fzS_sound (ops : Array Oper) {s : St} {a : Act} (ht : TRel ds S s.H pl s.tmps a) (h : WRel A G B w0 S s.H pl w) : ∃ S', Ext B S s.H pl S' (fzS C ops s).H pl ∧ WRel A G B w0 S' (fzS C ops s).H pl w ∧ TRel ds S' (fzS C ops s).H pl (fzS C ops s).tmps a := by
  unfold fzS
  split
  · exact ⟨S, Ext.refl _ _ _, h, ht⟩
  · split
    · exact frzA_sound _ ht h
    · exact ⟨S, Ext.refl _ _ _, h, ht⟩
theorem fzS_base (ops : Array Oper) (s : St) : (fzS C ops s).base = s.base := by
  unfold fzS
  split
  · rfl
  · split
    · exact frzA_base _ _
    · rfl
theorem op_freeze {tmps : List AV} {a : Act} {o : Oper} {t : Nat} {x : Operand} {lo hi mx : Option Operand} {id ver : Nat} {y z : AV} (hT : TdOk P C) (ht : TRel ds S H pl tmps a) (h : WRel A G B w0 S H pl w) (ho : o.op = .slice t x lo hi mx)
    (hx : evA tmps x = .own id ver) (hv : AV.val H (.own id ver) = some y) (e : sliceA (C.td t) y (lo.map (evA tmps)) (hi.map (evA tmps)) (mx.map (evA tmps)) = some z) : OpW P A G B w0 o a S H pl w z (H.set id .dead) := by
  have hu := ht.ev x
  rw [hx] at hu
  simp only [AV.val] at hv
  split at hv
  · rename_i e' sz v es hH
    split at hv
    · rename_i hver
      subst hver
      obtain rfl := Option.some.inj hv
      obtain ⟨S', hE, hW, hR⟩ := freeze h hH hu
      obtain ⟨r, hr, hz⟩ := sliceA_sound (w := w) hT ht (Rep.val (H := H.set id .dead) (pl := pl) _ _ hR) e
      exact .run (by simp [execOp, ho, hr]) hE hW hz
    · cases hv
  · cases hv
/-- The world turns in a block that is nobody's, and reads the same. -/
theorem WRel.mark (hG : ∀ w', Below B w0 w' → G w') (h : WRel A G B w0 S H pl w) {g : Nat} {w2 : World} (hg : B ≤ g) (hnl : ∀ k, ¬ live H pl k g) (hgc : ∀ o, w.heap[g]? = some o → o.isCells = true) (hgA : ¬ A g) (hh : ∀ b, b ≠ g → w2.heap[b]? = w.heap[b]?) (hc : ∀ a v, w.cell? a = some v → w2.cell? a = some v) (hs : w2.heap.size = w.heap.size)
    (h1 : w2.os = w.os) (h2 : w2.tape = w.tape) (h3 : w2.output = w.output) : WRel A G B w0 S H pl w2 := by
  have hb : Below B w0 w2 := ⟨h1.trans h.below.os, h2.trans h.below.tape, h3.trans h.below.output, by rw [hs]; exact h.below.size, fun k hk => (hh k (by omega)).trans (h.below.block k hk)⟩
  refine ⟨⟨fun k cs e => ?_, fun k e sz v bv es q => ?_, h.h.apart, h.h.sep⟩, fun a u e => hc a u (h.imm a u e), hb, by rw [hs]; exact h.base, hG _ hb, h.keep.trans ⟨Nat.le_of_eq hs.symm, fun k o hk ho => (hh k fun e => by subst e; rw [hgc o hk] at ho; cases ho).trans hk⟩, avd_frame h.av (Nat.le_of_eq hs.symm) (fun k b l => .inl ⟨k, l⟩) (fun a u e => .inl e), fun b hA => (hh b fun e => hgA (e ▸ hA)).trans (h.kp b hA)⟩
  · obtain ⟨b, c, us, t, hp, hB, hhe, hcs, ho⟩ := h.h.var k cs e
    refine ⟨b, c, us, t, hp, hB, ?_, hcs, ho⟩
    rw [hh b fun e' => hnl k ⟨⟨_, e, trivial⟩, c, by rw [← e']; exact hp⟩]
    exact hhe
  · obtain ⟨a1, a2, a3, a4, xs, ⟨a5, a6⟩, a7, a8⟩ := h.h.grow k e sz v bv es q
    refine ⟨a1, a2, a3, a4, xs, ⟨a5, ?_⟩, a7, a8⟩
    rcases a6 with a6 | ⟨g', cap, cur, b1, b2, b3, b4⟩
    · exact .inl a6
    · refine .inr ⟨g', cap, cur, b1, b2, ?_, b4⟩
      rw [hh g' fun e' => ?_]
      · exact b3
      · refine hnl k ⟨⟨_, q, trivial⟩, cap, ?_⟩
        rw [← e']
        cases hp : pl k with
        | none => rw [hp] at b1; simp [slv] at b1
        | some bc =>
          obtain ⟨b', c'⟩ := bc
          rw [hp] at b1
          simp [slv] at b1
          obtain ⟨rfl, rfl⟩ := b1
          rfl
theorem freeze_heap (w : World) (a : Addr) (n b : Nat) (h : b ≠ a.block) : (w.freeze a n).heap[b]? = w.heap[b]? := by
  unfold World.freeze
  split
  · rfl
  · simp only [Array.getElem?_modify]
    rw [if_neg (fun e => h e.symm)]
theorem freeze_size (w : World) (a : Addr) (n : Nat) : (w.freeze a n).heap.size = w.heap.size := by
  unfold World.freeze
  split
  · rfl
  · simp
theorem freeze_cell (w : World) (a : Addr) (n : Nat) (p : Addr) (v : Value) (h : w.cell? p = some v) : (w.freeze a n).cell? p = some v := by
  unfold World.freeze
  split
  · exact h
  · unfold World.cell? at h ⊢
    simp only [Array.getElem?_modify]
    by_cases e : a.block = p.block
    · rw [if_pos e]
      cases ho : w.heap[p.block]? with
      | none => rw [ho] at h; cases h
      | some o =>
        rw [ho] at h
        cases o with
        | cells c t fr => obtain ⟨lo, hi⟩ := fr; exact h
        | _ => exact h
    · rw [if_neg e]
      exact h
theorem op_mark {tmps : List AV} {a : Act} {o : Oper} {src : Nat} {x : Operand} {y : AV} {H' : List Blk} (hG : ∀ w', Below B w0 w' → G w') (hT : TdOk P C) (ht : TRel ds S H pl tmps a) (h : WRel A G B w0 S H pl w) (ho : o.op = .convert src src x)
    (e : markA (C.td src) (C.td (C.td src).elem) (evA tmps x) H = some (y, H')) : OpW P A G B w0 o a S H pl w y H' := by
  have hx := ht.ev x
  unfold markA at e
  split at e
  · rename_i e' by' z id ver h1 h3 hxe
    rw [h1] at h3
    split at e
    · rename_i e1 v c es hH
      split at e
      · rename_i hv
        subst hv
        simp only [Option.some.injEq, Prod.mk.injEq] at e
        obtain ⟨rfl, rfl⟩ := e
        rw [hxe] at hx
        obtain ⟨hu1, _⟩ := hT.sl src _ _ _ h1
        obtain ⟨⟨d3, hu3, _, hk3⟩, _⟩ := hT.one _ _ h3
        have e3 : d3 = .int .u8 := hk3
        subst e3
        obtain ⟨S', hE, hW, hR⟩ := freeze h hH hx
        obtain ⟨a1, a2, a3, a4, xs, ⟨a5, a6⟩, a7, a8⟩ := h.h.grow id _ _ _ _ _ hH
        have hu : a.eval x = slv (pl id) (c :: es).length := by
          cases hx with
          | val _ _ r => cases r
          | own _ _ _ hi q k => exact (k _ _ _ _ _ hH).2 rfl
        rcases a6 with ⟨_, a6⟩ | ⟨g, cap, cur, b1, b2, b3, b4⟩
        · simp at a6
        · have hp : pl id = some (g, cap) := by
            cases hp : pl id with
            | none => rw [hp] at b1; simp [slv] at b1
            | some bc =>
              obtain ⟨b', c'⟩ := bc
              rw [hp] at b1
              simp [slv] at b1
              obtain ⟨rfl, rfl⟩ := b1
              rfl
          have hsh : w.shape? g = some (e1, cur.size) := by
            unfold World.shape?
            rw [b3]
          have hr : (execOp a.eval o).run P w = .ok (.value (slv (pl id) (c :: es).length)) (w.freeze ⟨g, cur.size, none⟩ 1) := by
            simp only [execOp, ho, hu]
            rw [b1]
            have hu4 : P.underlying e' = some (.int .u8) := hu3
            simp [convert, run_underlying hu1, run_underlying hu4, markStringish, hsh]
          refine .run hr hE (hW.mark hG b2 (fun k l => ?_) (fun o ho => by rw [b3] at ho; cases ho; rfl) (h.av.liv id g ⟨⟨_, hH, trivial⟩, cap, hp⟩) (fun b hb => freeze_heap w _ _ b hb) (fun p v hv => freeze_cell w _ _ p v hv) (freeze_size w _ _) ?_ ?_ ?_) (.val _ _ ?_)
          · obtain ⟨⟨xk, hk, hlk⟩, hck⟩ := l
            obtain ⟨hne, hk0⟩ := dead_get hk hlk
            exact hne (h.h.apart k id g ⟨⟨xk, hk0, hlk⟩, hck⟩ ⟨⟨_, hH, trivial⟩, cap, hp⟩)
          · unfold World.freeze; split <;> rfl
          · unfold World.freeze; split <;> rfl
          · unfold World.freeze; split <;> rfl
          · rw [← hu]; exact hR
      · cases e
    · cases e
  · cases e
theorem own1_sound (hG : ∀ w', Below B w0 w' → G w') (k j e : Nat) (h : WRel A G B w0 S H pl w) : ∃ pl', Ext B S H pl S (own1 H k j e) pl' ∧ WRel A G B w0 S (own1 H k j e) pl' w := by
  unfold own1
  split
  · rename_i cs hk
    split
    · rename_i sz hj
      have hkn : k < H.length := (List.getElem?_eq_some_iff.1 hk).1
      have h1 := h.push hG (Below.refl _ _) (p := none) (x := .grow e (sz + 1) 0 true []) ⟨Nat.succ_pos _, by simp, fun _ => rfl, by simp, [], World.ownsRow_nil _ _ _ _, Cs.nil, by simp⟩
      have hE1 : Ext B S H pl S (H ++ [Blk.grow e (sz + 1) 0 true []]) (pushPl H.length pl none) := push_ext
      have hk1 : (H ++ [Blk.grow e (sz + 1) 0 true []])[k]? = some (.var cs) := by rw [List.getElem?_append_left hkn]; exact hk
      have hE2 : Ext B S (H ++ [Blk.grow e (sz + 1) 0 true []]) (pushPl H.length pl none) S ((H ++ [Blk.grow e (sz + 1) 0 true []]).set k (.var (cs.set j (.own H.length 0)))) (pushPl H.length pl none) := by
        have hp : pushPl k (pushPl H.length pl none) (pushPl H.length pl none k) = pushPl H.length pl none := by
          funext q
          by_cases hq : q = k
          · rw [hq]; simp [pushPl]
          · simp [pushPl, hq]
        have := set_ext_var (B := B) (S := S) (pl := pushPl H.length pl none) (ds := cs.set j (.own H.length 0)) hk1
        rwa [hp] at this
      have hnew : ((H ++ [Blk.grow e (sz + 1) 0 true []]).set k (.var (cs.set j (.own H.length 0))))[H.length]? = some (.grow e (sz + 1) 0 true []) := by
        rw [List.getElem?_set_ne (by omega)]
        simp
      have hlive : ∀ k' b, live ((H ++ [Blk.grow e (sz + 1) 0 true []]).set k (.var (cs.set j (.own H.length 0)))) (pushPl H.length pl none) k' b → live (H ++ [Blk.grow e (sz + 1) 0 true []]) (pushPl H.length pl none) k' b := fun k' b ⟨⟨x, hx, hl⟩, hc⟩ => by
        by_cases hkk : k = k'
        · subst hkk
          exact ⟨⟨_, hk1, trivial⟩, hc⟩
        · rw [List.getElem?_set_ne hkk] at hx
          exact ⟨⟨x, hx, hl⟩, hc⟩
      refine ⟨_, hE1.trans hE2, ⟨fun k' cs' hk' => ?_, fun k' e' sz' v bv es hk' => ?_, fun a b c l l' => h1.h.apart a b c (hlive _ _ l) (hlive _ _ l'), fun a u ha k' l => h1.h.sep a u ha k' (hlive _ _ l)⟩, h1.imm, h1.below, h1.base, h1.g, h1.keep, avd_frame h1.av (Nat.le_refl _) (fun k b l => .inl ⟨k, hlive _ _ l⟩) (fun a u e => .inl e), h1.kp⟩
      · by_cases hkk : k = k'
        · subst hkk
          rw [List.getElem?_set_self (by rw [List.length_append]; omega)] at hk'
          cases hk'
          obtain ⟨b, c, us, t, a1, a2, a3, a4, a5⟩ := h1.h.var k cs hk1
          refine ⟨b, c, us, t, a1, a2, a3, ⟨by rw [List.length_set]; exact a4.1, fun q x u hx hu => ?_⟩, a5⟩
          rw [List.getElem?_set] at hx
          split at hx
          · rename_i hjq
            subst hjq
            split at hx
            · obtain rfl := Option.some.inj hx
              have r := a4.2 j _ u hj hu
              have hu0 : u = .slice none 0 0 := by
                cases r with
                | val _ _ r => cases r with
                  | znil => rfl
              subst hu0
              refine .own _ _ _ (by simp) rfl fun e' sz' v bv es q => ?_
              rw [hnew] at q
              cases q
              simp [pushPl, slv]
            · cases hx
          · exact (a4.2 q x u hx hu).mono hE2
        · rw [List.getElem?_set_ne hkk] at hk'
          obtain ⟨b, c, us, t, a1, a2, a3, a4, a5⟩ := h1.h.var k' cs' hk'
          exact ⟨b, c, us, t, a1, a2, a3, a4.mono fun x u r => r.mono hE2, a5⟩
      · by_cases hkk : k = k'
        · subst hkk
          rw [List.getElem?_set_self (by rw [List.length_append]; omega)] at hk'
          cases hk'
        · rw [List.getElem?_set_ne hkk] at hk'
          obtain ⟨a1, a2, a3, a4, xs, a5, a6, a7⟩ := h1.h.grow k' e' sz' v bv es hk'
          exact ⟨a1, a2, a3, a4, xs, a5, a6.mono fun x u r => r.mono hE2, a7⟩
    · exact ⟨pl, Ext.refl _ _ _, h⟩
  · exact ⟨pl, Ext.refl _ _ _, h⟩
theorem ownF_sound (hG : ∀ w', Below B w0 w' → G w') : ∀ (ps : List (Nat × Nat × Nat)) (H : List Blk) (pl : Pl), WRel A G B w0 S H pl w → ∃ pl', Ext B S H pl S (ps.foldl (fun H p => own1 H p.1 p.2.1 p.2.2) H) pl' ∧ WRel A G B w0 S (ps.foldl (fun H p => own1 H p.1 p.2.1 p.2.2) H) pl' w
  | [], H, pl, h => ⟨pl, Ext.refl _ _ _, h⟩
  | p :: ps, H, pl, h => by
    obtain ⟨pl1, e1, h1⟩ := own1_sound hG p.1 p.2.1 p.2.2 h
    obtain ⟨pl2, e2, h2⟩ := ownF_sound hG ps _ pl1 h1
    exact ⟨pl2, e1.trans e2, h2⟩
theorem ownB_sound (hG : ∀ w', Below B w0 w' → G w') (oz : Nat → List (Nat × Nat)) (h : WRel A G B w0 S H pl w) : ∃ pl', Ext B S H pl S (ownB oz H) pl' ∧ WRel A G B w0 S (ownB oz H) pl' w := ownF_sound hG _ H pl h
end
end Go.Proofs.Ytkifbcjmmkbilaa.Av
