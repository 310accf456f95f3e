/- Drawn regions with two new variables side by side and a tail that waits for all: in whatever order the two are made. -/
import Derived.Test.YtkifbcjmmkbilaaAvL
set_option linter.unusedVariables false
set_option linter.unusedSimpArgs false
namespace Go.Proofs.Ytkifbcjmmkbilaa.Av
open Go Go.RowKit
section
variable {P : Program} {C : Ctx} {S : Sto} {H : List Blk} {pl : Pl} {A : Nat → Prop} {ds : List Deferred} {G : World → Prop} {B : Nat} {w0 w : World} {rd : Option Nat} {dp : Nat}

mutual
theorem rep_hb : (x : AV) → ∀ {u : Value}, Rep S H pl x u → AV.hb H.length x = true
  | .any, u, r => rfl
  | .v _, u, r => rfl
  | .lst _ _ _ _, u, r => rfl
  | .z _ _, u, r => rfl
  | .ept _, u, r => rfl
  | .own id ver, u, r => by
    cases r with
    | val _ _ r => cases r
    | own _ _ _ hi h1 k => simp [AV.hb, hi]
  | .gpt id ver i off, u, r => by
    cases r with
    | val _ _ r => cases r
    | gpt _ _ _ _ _ hi h1 k => simp [AV.hb, hi]
  | .ptr id off, u, r => by
    cases r with
    | val _ _ r => cases r
    | ptr _ _ _ hi h1 k => simp [AV.hb, hi]
  | .cut id ver n, u, r => by
    cases r with
    | val _ _ r => cases r
    | cut _ _ _ _ hi h1 k => simp [AV.hb, hi]
  | .agg cs, u, r => by
    obtain ⟨us, rfl, k⟩ := r.agg_inv
    simpa [AV.hb] using reps_hb cs k
  | .tup cs, u, r => by
    obtain ⟨us, rfl, k⟩ := r.tup_inv
    simpa [AV.hb] using reps_hb cs k
  | .fn f cs, u, r => by
    obtain ⟨us, rfl, k⟩ := r.fn_inv
    simpa [AV.hb] using reps_hb cs k
  | .ifc t x, u, r => by
    obtain ⟨v, rfl, k⟩ := r.ifc_inv
    simpa [AV.hb] using rep_hb x k
theorem reps_hb : (cs : List AV) → ∀ {us : List Value}, Cs (Rep S H pl) cs us → AV.hbs H.length cs = true
  | [], us, _ => rfl
  | x :: cs, us, k => by
    obtain ⟨u, us', rfl, hx, kc⟩ := k.tail
    simp [AV.hbs, rep_hb x hx, reps_hb cs kc]
end
mutual
theorem low_rep {E : List Blk} : (x : AV) → ∀ {u : Value}, AV.hb H.length x = true → Rep S (H ++ E) pl x u → Rep S H pl x u
  | .any, u, _, r => .val _ _ (.any u)
  | .v x, u, _, r => by rw [r.v_inv]; exact .val _ _ (.v x)
  | .lst _ _ _ _, u, _, r => by cases r; exact .val _ _ (by assumption)
  | .z _ _, u, _, r => by cases r; exact .val _ _ (by assumption)
  | .ept _, u, _, r => by cases r; exact .val _ _ (by assumption)
  | .own id ver, u, h, r => by
    have hid : id < H.length := by simpa [AV.hb] using h
    cases r with
    | val _ _ r => cases r
    | own _ _ _ hi h1 k => exact .own _ _ _ hid h1 fun e sz v bv es q => k e sz v bv es (by rwa [List.getElem?_append_left hid])
  | .gpt id ver i off, u, h, r => by
    have hid : id < H.length := by simpa [AV.hb] using h
    cases r with
    | val _ _ r => cases r
    | gpt _ _ _ _ _ hi h1 k => exact .gpt _ _ _ _ _ hid h1 fun e sz v bv es q => k e sz v bv es (by rwa [List.getElem?_append_left hid])
  | .ptr id off, u, h, r => by
    have hid : id < H.length := by simpa [AV.hb] using h
    cases r with
    | val _ _ r => cases r
    | ptr _ _ _ hi h1 k => exact .ptr _ _ _ hid h1 fun cs q => k cs (by rwa [List.getElem?_append_left hid])
  | .cut id ver n, u, h, r => by
    have hid : id < H.length := by simpa [AV.hb] using h
    cases r with
    | val _ _ r => cases r
    | cut _ _ _ _ hi h1 k => exact .cut _ _ _ _ hid h1 fun e sz v bv es q => k e sz v bv es (by rwa [List.getElem?_append_left hid])
  | .agg cs, u, h, r => by
    obtain ⟨us, rfl, k⟩ := r.agg_inv
    have := lows_rep cs (by simpa [AV.hb] using h) k
    exact .agg cs us this.1 this.2
  | .tup cs, u, h, r => by
    obtain ⟨us, rfl, k⟩ := r.tup_inv
    have := lows_rep cs (by simpa [AV.hb] using h) k
    exact .tup cs us this.1 this.2
  | .fn f cs, u, h, r => by
    obtain ⟨us, rfl, k⟩ := r.fn_inv
    have := lows_rep cs (by simpa [AV.hb] using h) k
    exact .fn f cs us this.1 this.2
  | .ifc t x, u, h, r => by
    obtain ⟨v, rfl, k⟩ := r.ifc_inv
    exact .ifc t x v (low_rep x (by simpa [AV.hb] using h) k)
theorem lows_rep {E : List Blk} : (cs : List AV) → ∀ {us : List Value}, AV.hbs H.length cs = true → Cs (Rep S (H ++ E) pl) cs us → Cs (Rep S H pl) cs us
  | [], us, _, k => by rw [k.nil_inv]; exact Cs.nil
  | x :: cs, us, h, k => by
    obtain ⟨u, us', rfl, hx, kc⟩ := k.tail
    simp [AV.hbs] at h
    exact Cs.cons (low_rep x h.1 hx) (lows_rep cs h.2 kc)
end
theorem hbs_all {n : Nat} : ∀ {cs : List AV}, (∀ x ∈ cs, AV.hb n x = true) → AV.hbs n cs = true
  | [], _ => rfl
  | y :: cs, h => by
    rw [AV.hbs, h y List.mem_cons_self, hbs_all fun x hx => h x (List.mem_cons_of_mem _ hx)]
    rfl
theorem hbs_in {n : Nat} : ∀ {cs : List AV}, AV.hbs n cs = true → ∀ x ∈ cs, AV.hb n x = true
  | [], _, x, h => by cases h
  | y :: cs, h, x, hx => by
    simp [AV.hbs] at h
    rcases List.mem_cons.1 hx with rfl | hx
    · exact h.1
    · exact hbs_in h.2 x hx

/-- Blocks without handles from their number on. -/
def LowH (H : List Blk) : Prop := (∀ (k : Nat) cs, H[k]? = some (.var cs) → AV.hbs H.length cs = true) ∧ ∀ (k : Nat) e sz v bv es, H[k]? = some (.grow e sz v bv es) → AV.hbs H.length es.flatten = true
theorem low_of (h : HRel B S H pl w) : LowH H := by
  refine ⟨fun k cs e => ?_, fun k e sz v bv es q => ?_⟩
  · obtain ⟨b, c, us, t, _, _, _, hc, _⟩ := h.var k cs e
    exact reps_hb cs hc
  · obtain ⟨_, _, _, _, xs, _, hc, _⟩ := h.grow k e sz v bv es q
    exact reps_hb _ hc
/-- The last two places changed. -/
def swp (n : Nat) (pl : Pl) : Pl := fun k => if k = n then pl (n + 1) else if k = n + 1 then pl n else pl k
def sw (n k : Nat) : Nat := if k = n then n + 1 else if k = n + 1 then n else k
theorem sw_inj {n j k : Nat} (h : sw n j = sw n k) : j = k := by
  unfold sw at h
  split at h <;> split at h <;> (try split at h) <;> (try split at h) <;> omega
theorem swp_eq (n : Nat) (pl : Pl) (k : Nat) : swp n pl k = pl (sw n k) := by
  unfold swp sw
  by_cases h : k = n
  · simp [h]
  · by_cases h2 : k = n + 1
    · simp [h2]
    · simp [h, h2]
theorem two_get {x y z : Blk} {k : Nat} (h : (H ++ [x, y])[k]? = some z) : (k < H.length ∧ H[k]? = some z) ∨ (k = H.length ∧ z = x) ∨ (k = H.length + 1 ∧ z = y) := by
  by_cases hk : k < H.length
  · rw [List.getElem?_append_left hk] at h
    exact .inl ⟨hk, h⟩
  · rw [List.getElem?_append_right (by omega)] at h
    obtain ⟨j, rfl⟩ : ∃ j, k = H.length + j := ⟨k - H.length, by omega⟩
    rw [Nat.add_sub_cancel_left] at h
    match j with
    | 0 => simp at h; exact .inr (.inl ⟨rfl, h.symm⟩)
    | 1 => simp at h; exact .inr (.inr ⟨rfl, h.symm⟩)
    | j + 2 => simp at h
theorem two_sw {x y z : Blk} {k : Nat} (h : (H ++ [x, y])[k]? = some z) : (H ++ [y, x])[sw H.length k]? = some z := by
  rcases two_get h with ⟨hk, e⟩ | ⟨rfl, rfl⟩ | ⟨rfl, rfl⟩
  · unfold sw
    rw [if_neg (by omega), if_neg (by omega), List.getElem?_append_left hk]
    exact e
  · unfold sw
    rw [if_pos rfl, List.getElem?_append_right (by omega)]
    simp
  · unfold sw
    rw [if_neg (by omega), if_pos rfl, List.getElem?_append_right (by omega)]
    simp
theorem low_ext {x y : Blk} : Ext 0 S H pl S (H ++ [x, y]) (swp H.length pl) :=
  ⟨fun a u e => .inl e, S.le_refl, by simp, fun k cs hk e => ⟨cs, by rwa [List.getElem?_append_left hk] at e, by unfold swp; rw [if_neg (by omega), if_neg (by omega)]⟩,
   fun k e sz ver bv es hk q => ⟨e, ver, bv, es, by rwa [List.getElem?_append_left hk] at q, Nat.le_refl _, fun _ => ⟨rfl, by unfold swp; rw [if_neg (by omega), if_neg (by omega)]⟩⟩⟩
theorem conv {E : List Blk} {x1 y1 : Blk} {x : AV} {u : Value} (hb : AV.hb H.length x = true) (r : Rep S (H ++ E) pl x u) : Rep S (H ++ [x1, y1]) (swp H.length pl) x u := (low_rep x hb r).mono low_ext
theorem convs {E : List Blk} {x1 y1 : Blk} {cs : List AV} {us : List Value} (hb : AV.hbs H.length cs = true) (r : Cs (Rep S (H ++ E) pl) cs us) : Cs (Rep S (H ++ [x1, y1]) (swp H.length pl)) cs us := by
  obtain ⟨h1, h2⟩ := lows_rep cs hb r
  exact ⟨h1, fun j x u hx hu => (h2 j x u hx hu).mono low_ext⟩
theorem swapW2 {c1 c2 : List AV} (hl : LowH H) (h1 : AV.hbs H.length c1 = true) (h2 : AV.hbs H.length c2 = true) (h : WRel A G B w0 S (H ++ [.var c2, .var c1]) pl w) : WRel A G B w0 S (H ++ [.var c1, .var c2]) (swp H.length pl) w := by
  have hlive : ∀ k b, live (H ++ [.var c1, .var c2]) (swp H.length pl) k b → live (H ++ [.var c2, .var c1]) pl (sw H.length k) b := fun k b ⟨⟨x, hx, hl⟩, c, hc⟩ => ⟨⟨x, two_sw hx, hl⟩, c, by rw [← swp_eq H.length pl k]; exact hc⟩
  refine ⟨⟨fun k cs e => ?_, fun k e sz ver bv es q => ?_, fun k k' b a1 a2 => sw_inj (h.h.apart _ _ b (hlive _ _ a1) (hlive _ _ a2)), fun a u e k l => h.h.sep a u e _ (hlive _ _ l)⟩, h.imm, h.below, h.base, h.g, h.keep, avd_frame h.av (Nat.le_refl _) (fun k b l => .inl ⟨_, hlive _ _ l⟩) (fun a u e => .inl e), h.kp⟩
  · obtain ⟨b, c, us, t, hp, hB, hh, hcs, ho⟩ := h.h.var _ cs (two_sw e)
    refine ⟨b, c, us, t, by rw [swp_eq]; exact hp, hB, hh, convs ?_ hcs, ho⟩
    rcases two_get e with ⟨_, e⟩ | ⟨_, e⟩ | ⟨_, e⟩
    · exact hl.1 k cs e
    · cases e; exact h1
    · cases e; exact h2
  · have hk : k < H.length ∧ H[k]? = some (.grow e sz ver bv es) := by
      rcases two_get q with q | ⟨_, q⟩ | ⟨_, q⟩
      · exact q
      · cases q
      · cases q
    obtain ⟨a1, a2, a3, a4, xs, a5, a6, a7⟩ := h.h.grow k e sz ver bv es (by rw [List.getElem?_append_left hk.1]; exact hk.2)
    have hpk : swp H.length pl k = pl k := by unfold swp; rw [if_neg (by omega), if_neg (by omega)]
    rw [hpk]
    exact ⟨a1, a2, a3, a4, xs, a5, convs (hl.2 k e sz ver bv es hk.2) a6, a7⟩
theorem swap_ext {S' : Sto} {x y x' y' : Blk} {pl' : Pl} (h : Ext B S H pl S' (H ++ [x, y]) pl') : Ext B S H pl S' (H ++ [x', y']) (swp H.length pl') :=
  ⟨h.new, h.S, by simp, fun k cs hk e => by
    rw [List.getElem?_append_left hk] at e
    obtain ⟨c0, e0, hp⟩ := h.var k cs hk (by rw [List.getElem?_append_left hk]; exact e)
    exact ⟨c0, e0, by unfold swp; rw [if_neg (by omega), if_neg (by omega)]; exact hp⟩,
   fun k e sz ver bv es hk q => by
    rw [List.getElem?_append_left hk] at q
    obtain ⟨e0, v0, b0, es0, q0, hv, hp⟩ := h.grow k e sz ver bv es hk (by rw [List.getElem?_append_left hk]; exact q)
    exact ⟨e0, v0, b0, es0, q0, hv, fun ev => ⟨(hp ev).1, by unfold swp; rw [if_neg (by omega), if_neg (by omega)]; exact (hp ev).2⟩⟩⟩
theorem put_at {T : List AV} {d : Option Nat} {x : AV} {i : Nat} : (put T d x)[i]? = if d = some i then (if i < T.length then some x else none) else T[i]? := by
  cases d with
  | none => simp [put]
  | some j =>
    simp only [put, List.getElem?_set]
    by_cases h : j = i
    · subst h
      by_cases hl : j < T.length <;> simp [hl]
    · rw [if_neg h, if_neg (by simpa using h)]
theorem put_swap {T : List AV} {d d' : Option Nat} {x y : AV} (h : ∀ t, d = some t → d' ≠ some t) : put (put T d x) d' y = put (put T d' y) d x := by
  apply List.ext_getElem?
  intro i
  simp only [put_at, put_length]
  by_cases h1 : d = some i
  · rw [if_neg (h i h1), if_pos h1, if_pos h1]
  · by_cases h2 : d' = some i
    · rw [if_pos h2, if_neg h1, if_pos h2]
    · rw [if_neg h2, if_neg h1, if_neg h1, if_neg h2]
theorem swap_T {c1 c2 : List AV} {T : List AV} {d1 d2 : Option Nat} {a : Act} (hd : ∀ t, d1 = some t → d2 ≠ some t) (hT : ∀ i x, T[i]? = some x → d1 ≠ some i → d2 ≠ some i → AV.hb H.length x = true)
    (h : TRel ds S (H ++ [.var c2, .var c1]) pl (put (put T d2 (.ptr H.length 0)) d1 (.ptr (H.length + 1) 0)) a) : TRel ds S (H ++ [.var c1, .var c2]) (swp H.length pl) (put (put T d1 (.ptr H.length 0)) d2 (.ptr (H.length + 1) 0)) a := by
  obtain ⟨h1, h2, h3⟩ := h
  refine ⟨h1, by rw [h2]; simp [put_length], fun i x u hx hu => ?_⟩
  have h4 := fun y => h3 i y u
  simp only [put_at, put_length] at h4 hx
  by_cases e2 : d2 = some i
  · have e1 : ¬ d1 = some i := fun e => hd i e e2
    rw [if_pos e2] at hx
    rw [if_neg e1, if_pos e2] at h4
    by_cases hl : i < T.length
    · rw [if_pos hl] at hx h4
      obtain rfl := Option.some.inj hx
      have r := h4 _ rfl hu
      cases r with
      | val _ _ r => cases r
      | ptr _ _ _ hi h1' k =>
        refine .ptr _ _ _ (by simp) h1' fun cs q => ?_
        obtain ⟨b, c, hp, hu'⟩ := k c2 (by rw [List.getElem?_append_right (Nat.le_refl _)]; simp)
        exact ⟨b, c, by unfold swp; rw [if_neg (by omega), if_pos rfl]; exact hp, hu'⟩
    · rw [if_neg hl] at hx; cases hx
  · rw [if_neg e2] at hx
    by_cases e1 : d1 = some i
    · rw [if_pos e1] at hx h4
      by_cases hl : i < T.length
      · rw [if_pos hl] at hx h4
        obtain rfl := Option.some.inj hx
        have r := h4 _ rfl hu
        cases r with
        | val _ _ r => cases r
        | ptr _ _ _ hi h1' k =>
          refine .ptr _ _ _ (by simp) h1' fun cs q => ?_
          obtain ⟨b, c, hp, hu'⟩ := k c1 (by rw [List.getElem?_append_right (by omega)]; simp)
          exact ⟨b, c, by unfold swp; rw [if_pos rfl]; exact hp, hu'⟩
      · rw [if_neg hl] at hx; cases hx
    · rw [if_neg e1] at hx h4
      rw [if_neg e2] at h4
      exact conv (hT i x hx e1 e2) (h4 x hx hu)
/-- Memory with the one, the other, both. -/
def mem2 (H : List Blk) (l1 l2 : Bool) (b1 b2 : Blk) : List Blk := match l1, l2 with
  | false, false => H
  | true, false => H ++ [b1]
  | false, true => H ++ [b2]
  | true, true => H ++ [b1, b2]
def tm2 (n : Nat) (l1 l2 : Bool) (d1 d2 : Option Nat) (T : List AV) : List AV := match l1, l2 with
  | false, false => T
  | true, false => put T d1 (.ptr n 0)
  | false, true => put T d2 (.ptr n 0)
  | true, true => put (put T d1 (.ptr n 0)) d2 (.ptr (n + 1) 0)
theorem mem2_app (H : List Blk) (l1 l2 : Bool) (b1 b2 : Blk) : ∃ E, mem2 H l1 l2 b1 b2 = H ++ E := by
  cases l1 <;> cases l2
  · exact ⟨[], (List.append_nil H).symm⟩
  · exact ⟨[b2], rfl⟩
  · exact ⟨[b1], rfl⟩
  · exact ⟨[b1, b2], rfl⟩
theorem tm2_at {n : Nat} {l1 l2 : Bool} {d1 d2 : Option Nat} {T : List AV} {t : Nat} (h1 : l1 = true → d1 ≠ some t) (h2 : l2 = true → d2 ≠ some t) : (tm2 n l1 l2 d1 d2 T)[t]? = T[t]? := by
  cases l1 <;> cases l2
  · rfl
  · exact put_ne (h2 rfl)
  · exact put_ne (h1 rfl)
  · unfold tm2
    simp only []
    rw [put_ne (h2 rfl), put_ne (h1 rfl)]
theorem tm2_put {n : Nat} {l1 l2 : Bool} {d1 d2 d : Option Nat} {T : List AV} {x : AV} (h1 : ∀ t, d = some t → d1 ≠ some t) (h2 : ∀ t, d = some t → d2 ≠ some t) : tm2 n l1 l2 d1 d2 (put T d x) = put (tm2 n l1 l2 d1 d2 T) d x := by
  cases l1 <;> cases l2
  · rfl
  · exact put_swap h2
  · exact put_swap h1
  · unfold tm2
    simp only []
    rw [put_swap h1, put_swap h2]
theorem lay_mem {L : Nat → Bool} {t : Nat} {y : AV} : ∀ (k : Nat) (os : List Oper) (xs T : List AV), (lay L k os xs T)[t]? = some y → T[t]? = some y ∨ ∃ (j : Nat) (o : Oper), os[j]? = some o ∧ xs[j]? = some y ∧ o.dst = some t ∧ t < T.length
  | k, [], xs, T, h => .inl h
  | k, o :: os, [], T, h => .inl h
  | k, o :: os, x :: xs, T, h => by
    rw [lay] at h
    rcases lay_mem (k + 1) os xs _ h with h | ⟨j, p, h1, h2, h3, h4⟩
    · split at h
      · rw [put_at] at h
        split at h
        · rename_i hd
          split at h
          · rename_i hl
            exact .inr ⟨0, o, rfl, by simpa using h, hd, hl⟩
          · cases h
        · exact .inl h
      · exact .inl h
    · refine .inr ⟨j + 1, p, h1, h2, h3, ?_⟩
      split at h4
      · rwa [put_length] at h4
      · exact h4
theorem draw_two (hM : P.follows .mixedOrders = true) (hG : ∀ w', Below B w0 w' → G w') (hK : CtxOk P C G) {call : Nat → List AV → List Blk → Option (AV × List Blk)} (hC : CallOk P C G B call) {ops : Array Oper} {Q : Exit → Act → World → Prop} (hok : drawOk ops.toList = true) {qs : List Oper} {tmps xs : List AV} {m : Nat} {o1 o2 : Oper} {c1 c2 : List AV}
    (hqs : ∀ (i : Nat) o, qs[i]? = some o ↔ (ops[i]? = some o ∧ i < m)) (hxs : xs.length = m) (hstep : ∀ (i : Nat) o, qs[i]? = some o → ∃ x, xs[i]? = some x ∧ StepOk C P H ops (lay (fun j => decide (j < i)) 0 qs xs tmps) o x)
    (ho1 : ops[m]? = some o1) (ho2 : ops[m + 1]? = some o2) (hg1 : o1.guard = none) (hg2 : o2.guard = none) (hr1 : ∀ t, o2.dst = some t → t ∉ reads ops.toList o1) (hr2 : ∀ t, o1.dst = some t → t ∉ reads ops.toList o2)
    (he1 : ∀ (H' : List Blk) (T' : List AV), (∀ y ∈ o1.op.operands, evA T' y = evA (lay (fun _ => true) 0 qs xs tmps) y) → evOp C P call T' H' o1 = some (.ptr H'.length 0, H' ++ [.var c1]))
    (he2 : ∀ (H' : List Blk) (T' : List AV), (∀ y ∈ o2.op.operands, evA T' y = evA (lay (fun _ => true) 0 qs xs tmps) y) → evOp C P call T' H' o2 = some (.ptr H'.length 0, H' ++ [.var c2]))
    (hl : LowH H) (hc1 : AV.hbs H.length c1 = true) (hc2 : AV.hbs H.length c2 = true) (htm : ∀ (t : Nat) y, tmps[t]? = some y → AV.hb H.length y = true) (hxb : ∀ (j : Nat) o x t, qs[j]? = some o → xs[j]? = some x → o.dst = some t → t < tmps.length → AV.hb H.length x = true)
    (hsink : ∀ i, m + 2 ≤ i → ∀ (L : Nat → Bool) o, ops[i]? = some o → (∀ k ∈ afters o, L k = true) → (∀ j p, ops[j]? = some p → L j = true → ∀ k ∈ afters p, L k = true) → ∀ j, j < i → L j = true)
    (hlast : ∀ a S' pl' w', Ext B S H pl S' (H ++ [.var c1, .var c2]) pl' → WRel A G B w0 S' (H ++ [.var c1, .var c2]) pl' w' → TRel ds S' (H ++ [.var c1, .var c2]) pl' (put (put (lay (fun _ => true) 0 qs xs tmps) o1.dst (.ptr H.length 0)) o2.dst (.ptr (H.length + 1) 0)) a → wpListIn (Fc rd) dp P ops Q (ops.toList.drop (m + 2)) a w') :
    ∀ (fuel : Nat) (listed : Array Bool) (S' : Sto) (pl' : Pl) (a : Act) (w : World), listed.size = ops.size → unl ops.size listed ≤ fuel → (∀ j o, ops[j]? = some o → lst listed j = true → ∀ k ∈ afters o, lst listed k = true) → (∀ j, m + 2 ≤ j → lst listed j = false) →
      Ext B S H pl S' (mem2 H (lst listed m) (lst listed (m + 1)) (.var c1) (.var c2)) pl' → WRel A G B w0 S' (mem2 H (lst listed m) (lst listed (m + 1)) (.var c1) (.var c2)) pl' w → TRel ds S' (mem2 H (lst listed m) (lst listed (m + 1)) (.var c1) (.var c2)) pl' (tm2 H.length (lst listed m) (lst listed (m + 1)) o1.dst o2.dst (lay (lst listed) 0 qs xs tmps)) a → wpAnyIn (Fc rd) dp P .any ops Q fuel listed a w := by
  have hops : ∀ (j : Nat), ops.toList[j]? = ops[j]? := fun j => by simp
  have hready : ∀ (listed : Array Bool), listed.size = ops.size → (Region.ready .any ops listed = [] → ∀ j, j < ops.size → lst listed j = true) := by
    intro listed hsz hr j
    induction j using Nat.strongRecOn with
    | _ j ih =>
      intro hj
      by_cases hl : lst listed j = true
      · exact hl
      · have hlf : lst listed j = false := by simpa using hl
        have ho : ops[j]? = some ops[j] := Array.getElem?_eq_getElem hj
        have hm : j ∈ Region.ready .any ops listed := by
          rw [mem_ready]
          refine ⟨?_, ops[j], ho, fun e he hb => ?_⟩
          · unfold lst at hlf
            simpa [Array.getD, hsz, hj] using hlf
          · have := (drawOk_inv hok (i := j) (by rw [hops]; exact ho)).1 e he
            exact ih e.on this (by omega)
        rw [hr] at hm
        cases hm
  have hd12 : ∀ t, o1.dst = some t → o2.dst ≠ some t := fun t h1 h2 => ((drawOk_inv hok (i := m + 1) (by rw [hops]; exact ho2)).2 m o1 t (by rw [hops]; exact ho1) h1 (by omega)).1 h2
  -- what an operation reads does not hang on what is listed
  have hcongr : ∀ (listed : Array Bool) (i : Nat) (o : Oper), ops[i]? = some o → i < m + 2 → lst listed i = false → (∀ k ∈ afters o, lst listed k = true) → (∀ j o, ops[j]? = some o → lst listed j = true → ∀ k ∈ afters o, lst listed k = true) →
      ∀ t ∈ reads ops.toList o, (lay (lst listed) 0 qs xs tmps)[t]? = (lay (fun j => decide (j < i)) 0 qs xs tmps)[t]? := by
    intro listed i o ho hi hli haft hcl t ht
    refine lay_congr 0 qs xs tmps tmps (fun j p hp hd => ?_) rfl rfl
    simp only [Nat.zero_add]
    obtain ⟨hpo, hjm⟩ := (hqs j p).1 hp
    by_cases hij : i = j
    · subst hij; simp [hli]
    · have := ((drawOk_inv hok (i := i) (by rw [hops]; exact ho)).2 j p t (by rw [hops]; exact hpo) hd hij).2 ht
      by_cases hlt : j < i
      · rw [if_pos hlt] at this
        rw [haft j this]
        simp [hlt]
      · rw [if_neg hlt] at this
        rw [decide_eq_false hlt]
        cases hlj : lst listed j with
        | false => rfl
        | true =>
          have := hcl j p hpo hlj i this
          rw [hli] at this
          cases this
  have hnot : ∀ (listed : Array Bool) (i : Nat) (o : Oper), ops[i]? = some o → i < m → lst listed i = false → (∀ j o, ops[j]? = some o → lst listed j = true → ∀ k ∈ afters o, lst listed k = true) → ∀ t ∈ reads ops.toList o, (lst listed m = true → o1.dst ≠ some t) ∧ (lst listed (m + 1) = true → o2.dst ≠ some t) := by
    intro listed i o ho hi hli hcl t ht
    refine ⟨fun h1 hd => ?_, fun h2 hd => ?_⟩
    · have := ((drawOk_inv hok (i := i) (by rw [hops]; exact ho)).2 m o1 t (by rw [hops]; exact ho1) hd (by omega)).2 ht
      rw [if_neg (by omega)] at this
      have := hcl m o1 ho1 h1 i this
      rw [hli] at this
      cases this
    · have := ((drawOk_inv hok (i := i) (by rw [hops]; exact ho)).2 (m + 1) o2 t (by rw [hops]; exact ho2) hd (by omega)).2 ht
      rw [if_neg (by omega)] at this
      have := hcl (m + 1) o2 ho2 h2 i this
      rw [hli] at this
      cases this
  have hev : ∀ (T1 T2 : List AV) (o : Oper), (∀ t ∈ reads ops.toList o, T1[t]? = T2[t]?) → ∀ y ∈ o.op.operands, evA T1 y = evA T2 y := by
    intro T1 T2 o h y hy
    cases y with
    | tmp t =>
      have : t ∈ reads ops.toList o := by
        unfold reads opTmps
        refine List.mem_append.2 (.inl (List.mem_filterMap.2 ⟨.tmp t, by simpa using hy, rfl⟩))
      simp only [evA, List.getD, h t this]
    | _ => rfl
  have hwant : ∀ (T1 T2 : List AV) (o : Oper), (∀ t ∈ reads ops.toList o, T1[t]? = T2[t]?) → wantA ops T1 o = wantA ops T2 o := by
    intro T1 T2 o h
    unfold wantA
    cases hg : o.guard with
    | none => rfl
    | some jb =>
      obtain ⟨j, b⟩ := jb
      simp only
      cases hp : ops[j]? with
      | none => rfl
      | some p =>
        simp only [Option.bind_some]
        cases hd : p.dst with
        | none => rfl
        | some d =>
          have : d ∈ reads ops.toList o := by
            unfold reads
            refine List.mem_append.2 (.inr ?_)
            rw [hg]
            simp only [hops, hp, hd]
            simp
          simp only [List.getD, h d this]
  have hfull : ∀ (listed : Array Bool), (∀ j, j < m → lst listed j = true) → lay (lst listed) 0 qs xs tmps = lay (fun _ => true) 0 qs xs tmps := fun listed h => by
    apply List.ext_getElem?
    intro t
    refine lay_congr 0 qs xs tmps tmps (fun j p hp _ => ?_) rfl rfl
    rw [Nat.zero_add]
    exact h j ((hqs j p).1 hp).2
  have hcut : ∀ i, m ≤ i → lay (fun j => decide (j < i)) 0 qs xs tmps = lay (fun _ => true) 0 qs xs tmps := fun i hi => by
    apply List.ext_getElem?
    intro t
    refine lay_congr 0 qs xs tmps tmps (fun j p hp _ => ?_) rfl rfl
    rw [Nat.zero_add]
    exact decide_eq_true (by have := ((hqs j p).1 hp).2; omega)
  have hsame : ∀ (L1 L2 : Nat → Bool), (∀ j, j < m → L1 j = L2 j) → lay L1 0 qs xs tmps = lay L2 0 qs xs tmps := fun L1 L2 h => by
    apply List.ext_getElem?
    intro t
    refine lay_congr 0 qs xs tmps tmps (fun j p hp _ => ?_) rfl rfl
    rw [Nat.zero_add]
    exact h j ((hqs j p).1 hp).2
  have hlayl : ∀ (L : Nat → Bool) (i : Nat) x, (lay L 0 qs xs tmps)[i]? = some x → AV.hb H.length x = true := fun L i x hx => by
    rcases lay_mem 0 qs xs tmps hx with h | ⟨j, o, hj, hxj, hd, htl⟩
    · exact htm i x h
    · exact hxb j o x i hj hxj hd htl
  have hnil : ∀ (listed : Array Bool), listed.size = ops.size → (∀ j, j < ops.size → lst listed j = true) → Region.ready .any ops listed = [] := by
    intro listed hsz hall
    rw [List.eq_nil_iff_forall_not_mem]
    intro j hj
    obtain ⟨h0, o, ho, _⟩ := mem_ready.1 hj
    have hlt : j < ops.size := (Array.getElem?_eq_some_iff.1 ho).1
    have := hall j hlt
    unfold lst at this
    simp [Array.getD, hsz, hlt] at this h0
    rw [this] at h0
    cases h0
  have tail : ∀ (k i : Nat) (listed : Array Bool) (a : Act) (w : World), i + k = ops.size → m + 2 ≤ i → listed.size = ops.size → (∀ j, lst listed j = decide (j < i)) →
      (∀ i, m + 2 ≤ i → ∀ (L : Nat → Bool) o, ops[i]? = some o → (∀ k ∈ afters o, L k = true) → (∀ j p, ops[j]? = some p → L j = true → ∀ k ∈ afters p, L k = true) → ∀ j, j < i → L j = true) →
      wpListIn (Fc rd) dp P ops Q (ops.toList.drop i) a w → ∀ fuel, k ≤ fuel → wpAnyIn (Fc rd) dp P .any ops Q fuel listed a w := by
    intro k
    induction k with
    | zero =>
      intro i listed a w hik hmi hsz heq hsink hl fuel _
      rw [List.drop_eq_nil_of_le (by simp; omega)] at hl
      exact wpAnyIn_done (hnil listed hsz fun j hj => by rw [heq]; exact decide_eq_true (by omega)) hl fuel
    | succ k ihk =>
      intro i listed a w hik hmi hsz heq hsink hl fuel hf
      match fuel, hf with
      | fuel + 1, hf =>
        refine ⟨fun hr => ?_, fun q hq => ?_⟩
        · have := hready listed hsz hr i (by omega)
          rw [heq, decide_eq_false (by omega)] at this
          cases this
        · obtain ⟨h0, o, ho, haf⟩ := mem_ready.1 hq
          have hlt : q < ops.size := (Array.getElem?_eq_some_iff.1 ho).1
          have hlq : lst listed q = false := by unfold lst; simpa [Array.getD, hsz, hlt] using h0
          have haft : ∀ k ∈ afters o, lst listed k = true := fun k hk => by
            obtain ⟨e, he, hb, rfl⟩ := mem_afters hk
            exact haf e he hb
          have hqi : ¬ q < i := fun h => by rw [heq, decide_eq_true h] at hlq; cases hlq
          have hcl : ∀ j p, ops[j]? = some p → lst listed j = true → ∀ k ∈ afters p, lst listed k = true := fun j p hp hj k hk => by
            rw [heq] at hj ⊢
            obtain ⟨e, he, _, rfl⟩ := mem_afters hk
            have h1 := (drawOk_inv hok (i := j) (by rw [hops]; exact hp)).1 e he
            have h2 : j < i := of_decide_eq_true hj
            exact decide_eq_true (by omega)
          have hqe : q = i := by
            by_cases h : i < q
            · have := hsink q (by omega) _ o ho haft hcl i h
              rw [heq, decide_eq_false (Nat.lt_irrefl i)] at this
              cases this
            · omega
          subst hqe
          have hd : ops.toList.drop q = o :: ops.toList.drop (q + 1) := by
            have hq' : q < ops.toList.length := by simpa using hlt
            rw [List.drop_eq_getElem_cons hq']
            have : ops.toList[q]? = some o := by rw [hops]; exact ho
            rw [List.getElem?_eq_getElem hq'] at this
            rw [Option.some.inj this]
          have hnext : ∀ a w, wpListIn (Fc rd) dp P ops Q (ops.toList.drop (q + 1)) a w → wpAnyIn (Fc rd) dp P .any ops Q fuel (listed.setIfInBounds q true) a w := fun a w hq' => by
            refine ihk (q + 1) _ a w (by omega) (by omega) (by simpa using hsz) (fun j => ?_) hsink hq' fuel (by omega)
            rw [lst_set (by omega), heq]
            by_cases h1 : j < q
            · simp [h1, Nat.lt_succ_of_lt h1]
            · by_cases h2 : j = q
              · simp [h2]
              · simp [h1, h2]; omega
          unfold wpOpIn
          rw [ho]
          rw [hd] at hl
          unfold wpListIn at hl
          simp only
          split at hl
          · rename_i hw
            rw [if_pos hw]
            exact Oper.wpIn_mono (fun a w h => hnext a w h) hl
          · rename_i hw
            rw [if_neg hw]
            exact ⟨hl.1, hnext _ _ hl.2⟩
  have hm2 : m + 1 < ops.size := (Array.getElem?_eq_some_iff.1 ho2).1
  have fin : ∀ (fuel : Nat) (listed : Array Bool) (S' : Sto) (pl' : Pl) (a : Act) (w : World), listed.size = ops.size → ops.size - (m + 2) ≤ fuel → (∀ j, j < m + 2 → lst listed j = true) → (∀ j, m + 2 ≤ j → lst listed j = false) →
      Ext B S H pl S' (mem2 H (lst listed m) (lst listed (m + 1)) (.var c1) (.var c2)) pl' → WRel A G B w0 S' (mem2 H (lst listed m) (lst listed (m + 1)) (.var c1) (.var c2)) pl' w → TRel ds S' (mem2 H (lst listed m) (lst listed (m + 1)) (.var c1) (.var c2)) pl' (tm2 H.length (lst listed m) (lst listed (m + 1)) o1.dst o2.dst (lay (lst listed) 0 qs xs tmps)) a → wpAnyIn (Fc rd) dp P .any ops Q fuel listed a w := by
    intro fuel listed S' pl' a w hsz hf hall hbig hE hW hT
    rw [hall m (by omega), hall (m + 1) (by omega)] at hE hW hT
    rw [hfull listed fun j hj => hall j (by omega)] at hT
    exact tail (ops.size - (m + 2)) (m + 2) listed a w (by omega) (Nat.le_refl _) hsz (fun j => by
      by_cases hj : j < m + 2
      · rw [hall j hj, decide_eq_true hj]
      · rw [hbig j (by omega), decide_eq_false hj]) hsink (hlast a S' pl' w hE hW hT) fuel hf
  have hunl : ∀ (listed : Array Bool), (∀ j, j < m + 2 → lst listed j = true) → (∀ j, m + 2 ≤ j → lst listed j = false) → unl ops.size listed = ops.size - (m + 2) := fun listed hall hbig => by
    unfold unl
    rw [show (fun j => !lst listed j) = fun j => decide (m + 2 ≤ j) from funext fun j => by
      by_cases hj : m + 2 ≤ j
      · rw [hbig j hj, decide_eq_true hj]; rfl
      · rw [hall j (by omega), decide_eq_false hj]; rfl]
    exact count_from (m + 2) ops.size (by omega)
  intro fuel
  induction fuel with
  | zero =>
    intro listed S' pl' a w hsz hun hcl hbig hE hW hT
    have hall : ∀ j, j < ops.size → lst listed j = true := by
      intro j hj
      have h0 : ((List.range ops.size).filter fun j => !lst listed j) = [] := List.eq_nil_of_length_eq_zero (by unfold unl at hun; omega)
      have := List.filter_eq_nil_iff.1 h0 j (List.mem_range.2 hj)
      simpa using this
    have hall2 : ∀ j, j < m + 2 → lst listed j = true := fun j hj => hall j (by omega)
    exact fin 0 listed S' pl' a w hsz (by rw [← hunl listed hall2 hbig]; exact hun) hall2 hbig hE hW hT
  | succ fuel ih =>
    intro listed S' pl' a w hsz hun hcl hbig hE hW hT
    by_cases hall2 : ∀ j, j < m + 2 → lst listed j = true
    · exact fin (fuel + 1) listed S' pl' a w hsz (by rw [← hunl listed hall2 hbig]; exact hun) hall2 hbig hE hW hT
    refine ⟨fun hr => absurd (fun j hj => hready listed hsz hr j (by omega)) hall2, fun i hi => ?_⟩
    obtain ⟨h0, o, ho, haf⟩ := mem_ready.1 hi
    have hlt : i < ops.size := (Array.getElem?_eq_some_iff.1 ho).1
    have hli : lst listed i = false := by unfold lst; simpa [Array.getD, hsz, hlt] using h0
    have haft : ∀ k ∈ afters o, lst listed k = true := fun k hk => by
      obtain ⟨e, he, hb, rfl⟩ := mem_afters hk
      exact haf e he hb
    have hi2 : i < m + 2 := by
      by_cases h : i < m + 2
      · exact h
      · exact absurd (fun j hj => hsink i (by omega) _ o ho haft hcl j (by omega)) hall2
    have hset := lst_set (listed := listed) (i := i) (by omega)
    have hun' : unl ops.size (listed.setIfInBounds i true) ≤ fuel := by
      have := unl_lt (p := fun j => !lst listed j) (q := fun j => !lst (listed.setIfInBounds i true) j) (i := i) (by simp [hli]) (by simp [hset]) (fun j hj => by simp [hset] at hj; simp [hj.1]) (List.range ops.size) (List.mem_range.2 hlt)
      unfold unl at hun ⊢
      omega
    have hcl' : ∀ j p, ops[j]? = some p → lst (listed.setIfInBounds i true) j = true → ∀ k ∈ afters p, lst (listed.setIfInBounds i true) k = true := fun j p hp hj k hk => by
      rw [hset] at hj ⊢
      by_cases hji : j = i
      · subst hji
        rw [ho] at hp
        obtain rfl := Option.some.inj hp
        simp [haft k hk]
      · simp only [decide_eq_false hji, Bool.or_false] at hj
        simp [hcl j p hp hj k hk]
    have hbig' : ∀ j, m + 2 ≤ j → lst (listed.setIfInBounds i true) j = false := fun j hj => by
      rw [hset, hbig j hj]
      simp
      omega
    have hsz' : (listed.setIfInBounds i true).size = ops.size := by simpa using hsz
    have hoth : ∀ j, j ≠ i → lst (listed.setIfInBounds i true) j = lst listed j := fun j hj => by rw [hset, decide_eq_false hj, Bool.or_false]
    have hself : lst (listed.setIfInBounds i true) i = true := by rw [hset]; simp
    unfold wpOpIn
    rw [ho]
    simp only
    by_cases him : i < m
    · have hc : ∀ t ∈ reads ops.toList o, (tm2 H.length (lst listed m) (lst listed (m + 1)) o1.dst o2.dst (lay (lst listed) 0 qs xs tmps))[t]? = (lay (fun j => decide (j < i)) 0 qs xs tmps)[t]? := fun t ht =>
        (tm2_at (hnot listed i o ho him hli hcl t ht).1 (hnot listed i o ho him hli hcl t ht).2).trans (hcongr listed i o ho hi2 hli haft hcl t ht)
      obtain ⟨x, hx, hst⟩ := hstep i o ((hqs i o).2 ⟨ho, him⟩)
      have hlay : lay (lst (listed.setIfInBounds i true)) 0 qs xs tmps = put (lay (lst listed) 0 qs xs tmps) o.dst x := by
        apply List.ext_getElem?
        intro t
        by_cases hd : o.dst = some t
        · by_cases htl : t < tmps.length
          · rw [lay_at 0 qs xs tmps i o x ((hqs i o).2 ⟨ho, him⟩) hx hd (by rw [Nat.zero_add, hset]; simp) (fun j p hp hpd => ?_) htl, hd]
            · simp [put, lay_length, htl]
            · by_cases hij : i = j
              · exact hij.symm
              · exact absurd hd ((drawOk_inv hok (i := i) (by rw [hops]; exact ho)).2 j p t (by rw [hops]; exact ((hqs j p).1 hp).1) hpd hij).1
          · rw [List.getElem?_eq_none (by rw [lay_length]; omega), List.getElem?_eq_none (by rw [put_length, lay_length]; omega)]
        · rw [put_ne hd]
          refine lay_congr 0 qs xs tmps tmps (fun j p hp hpd => ?_) rfl rfl
          rw [Nat.zero_add, hset]
          by_cases hji : j = i
          · subst hji
            rw [((hqs j p).1 hp).1] at ho
            obtain rfl := Option.some.inj ho
            exact absurd hpd hd
          · simp [hji]
      have hdo1 : ∀ t, o.dst = some t → o1.dst ≠ some t := fun t h1 h2 => ((drawOk_inv hok (i := i) (by rw [hops]; exact ho)).2 m o1 t (by rw [hops]; exact ho1) h2 (by omega)).1 h1
      have hdo2 : ∀ t, o.dst = some t → o2.dst ≠ some t := fun t h1 h2 => ((drawOk_inv hok (i := i) (by rw [hops]; exact ho)).2 (m + 1) o2 t (by rw [hops]; exact ho2) h2 (by omega)).1 h1
      rcases hst with ⟨hw, hx'⟩ | ⟨hw, rfl⟩
      · rw [← hwant _ _ o hc] at hw
        rw [if_pos (wantA_sound hT hw)]
        have hq : evOpQ C P (tm2 H.length (lst listed m) (lst listed (m + 1)) o1.dst o2.dst (lay (lst listed) 0 qs xs tmps)) (mem2 H (lst listed m) (lst listed (m + 1)) (.var c1) (.var c2)) o = some x := by
          obtain ⟨E, hE'⟩ := mem2_app H (lst listed m) (lst listed (m + 1)) (.var c1) (.var c2)
          rw [hE', evOpQ_congr (hev _ _ o hc)]
          exact evOpQ_more E hx'
        refine oper_in (evOpQ_nd hq) (evOpQ_sound hG hK hT hW hq _ _ fun u S2 pl2 w2 hE2 hW2 hR => ?_)
        refine ih _ S2 pl2 _ w2 hsz' hun' hcl' hbig' ?_ ?_ ?_ <;> rw [hoth m (by omega), hoth (m + 1) (by omega)]
        · exact hE.trans hE2
        · exact hW2
        · rw [hlay, tm2_put hdo1 hdo2]
          exact (hT.mono hE2).put o.dst hR
      · rw [← hwant _ _ o hc] at hw
        rw [if_neg (by rw [wantA_sound hT hw]; decide)]
        refine And.intro (fun f _ => Fc_fn rd f) ?_
        refine ih _ S' pl' _ w hsz' hun' hcl' hbig' ?_ ?_ ?_ <;> rw [hoth m (by omega), hoth (m + 1) (by omega)]
        · exact hE
        · exact hW
        · rw [hlay, tm2_put hdo1 hdo2]
          exact hT.put o.dst (.val _ _ (.v _))
    · have hle : lay (lst (listed.setIfInBounds i true)) 0 qs xs tmps = lay (lst listed) 0 qs xs tmps := hsame _ _ fun j hj => hoth j (by omega)
      by_cases hi1 : i = m
      · subst hi1
        rw [ho1] at ho
        obtain rfl := Option.some.inj ho
        rw [hli] at hE hW hT
        have hc : ∀ t ∈ reads ops.toList o1, (tm2 H.length false (lst listed (i + 1)) o1.dst o2.dst (lay (lst listed) 0 qs xs tmps))[t]? = (lay (fun _ => true) 0 qs xs tmps)[t]? := fun t ht =>
          (tm2_at (fun h => by cases h) (fun _ h2 => hr1 t h2 ht)).trans ((hcongr listed i o1 ho1 hi2 hli haft hcl t ht).trans (by rw [hcut i (Nat.le_refl _)]))
        have hw : wantA ops (tm2 H.length false (lst listed (i + 1)) o1.dst o2.dst (lay (lst listed) 0 qs xs tmps)) o1 = some true := by unfold wantA; rw [hg1]
        rw [if_pos (wantA_sound hT hw)]
        refine oper_in (evOp_nd (he1 [] _ (hev _ _ o1 hc))) (evOp_sound hG hK hC hT hW (he1 _ _ (hev _ _ o1 hc)) _ _ fun u S2 pl2 w2 hE2 hW2 hR => ?_)
        cases h2 : lst listed (i + 1) with
        | false =>
          rw [h2] at hE hW hT hE2 hW2 hR
          refine ih _ S2 pl2 _ w2 hsz' hun' hcl' hbig' ?_ ?_ ?_ <;> rw [hself, hoth (i + 1) (by omega), h2]
          · exact hE.trans hE2
          · exact hW2
          · rw [hle]
            exact (hT.mono hE2).put o1.dst hR
        | true =>
          rw [h2] at hE hW hT hE2 hW2 hR
          have hT2 := (hT.mono hE2).put o1.dst hR
          simp only [mem2, tm2, List.append_assoc, List.cons_append, List.nil_append, List.length_append, List.length_cons, List.length_nil, Nat.zero_add] at hE hW hT hE2 hW2 hR hT2
          refine ih _ S2 (swp H.length pl2) _ w2 hsz' hun' hcl' hbig' ?_ ?_ ?_ <;> rw [hself, hoth (i + 1) (by omega), h2]
          · exact swap_ext (hE.trans hE2)
          · exact swapW2 hl hc1 hc2 hW2
          · rw [hle]
            exact swap_T hd12 (fun j x hx _ _ => hlayl _ j x hx) hT2
      · obtain rfl : i = m + 1 := by omega
        rw [ho2] at ho
        obtain rfl := Option.some.inj ho
        rw [hli] at hE hW hT
        have hc : ∀ t ∈ reads ops.toList o2, (tm2 H.length (lst listed m) false o1.dst o2.dst (lay (lst listed) 0 qs xs tmps))[t]? = (lay (fun _ => true) 0 qs xs tmps)[t]? := fun t ht =>
          (tm2_at (fun _ h1 => hr2 t h1 ht) (fun h => by cases h)).trans ((hcongr listed (m + 1) o2 ho2 hi2 hli haft hcl t ht).trans (by rw [hcut (m + 1) (Nat.le_succ _)]))
        have hw : wantA ops (tm2 H.length (lst listed m) false o1.dst o2.dst (lay (lst listed) 0 qs xs tmps)) o2 = some true := by unfold wantA; rw [hg2]
        rw [if_pos (wantA_sound hT hw)]
        refine oper_in (evOp_nd (he2 [] _ (hev _ _ o2 hc))) (evOp_sound hG hK hC hT hW (he2 _ _ (hev _ _ o2 hc)) _ _ fun u S2 pl2 w2 hE2 hW2 hR => ?_)
        cases h1 : lst listed m with
        | false =>
          rw [h1] at hE hW hT hE2 hW2 hR
          refine ih _ S2 pl2 _ w2 hsz' hun' hcl' hbig' ?_ ?_ ?_ <;> rw [hself, hoth m (by omega), h1]
          · exact hE.trans hE2
          · exact hW2
          · rw [hle]
            exact (hT.mono hE2).put o2.dst hR
        | true =>
          rw [h1] at hE hW hT hE2 hW2 hR
          have hT2 := (hT.mono hE2).put o2.dst hR
          simp only [mem2, tm2, List.append_assoc, List.cons_append, List.nil_append, List.length_append, List.length_cons, List.length_nil, Nat.zero_add] at hE hW hT hE2 hW2 hR hT2
          refine ih _ S2 pl2 _ w2 hsz' hun' hcl' hbig' ?_ ?_ ?_ <;> rw [hself, hoth m (by omega), h1]
          · exact hE.trans hE2
          · exact hW2
          · rw [hle]
            exact hT2
end
end Go.Proofs.Ytkifbcjmmkbilaa.Av
