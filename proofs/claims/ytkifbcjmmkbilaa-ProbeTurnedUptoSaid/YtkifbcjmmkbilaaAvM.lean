/- What the interpreter answers of code and functions, the program answers. -/
import Derived.Test.YtkifbcjmmkbilaaAvD
set_option linter.unusedVariables false
set_option linter.unusedSimpArgs false
namespace Go.Proofs.Ytkifbcjmmkbilaa.Av
open Go Go.RowKit
variable {P : Program}
section
variable {S : Sto} {H : List Blk} {pl : Pl} {A : Nat → Prop} {ds : List Deferred} {G : World → Prop} {B : Nat} {w0 w : World} {C : Ctx}

mutual
theorem take_rep {n : Nat} (hn : n ≤ H.length) : (x : AV) → ∀ {u : Value}, AV.hb n x = true → Rep S H pl x u → Rep S (H.take n) pl x u
  | .any, u, _, r => .val _ _ (.any u)
  | .v x, u, _, r => by rw [r.v_inv]; exact .val _ _ (.v x)
  | .lst _ _ _ _, u, _, r => by cases r; exact .val _ _ (by assumption)
  | .z _ _, u, _, r => by cases r; exact .val _ _ (by assumption)
  | .ept _, u, _, r => by cases r; exact .val _ _ (by assumption)
  | .own id ver, u, h, r => by
    have hid : id < n := by simpa [AV.hb] using h
    cases r with
    | val _ _ r => cases r
    | own _ _ _ hi h1 k => exact .own _ _ _ (by simp; omega) h1 fun e sz v bv es q => k e sz v bv es (by rwa [List.getElem?_take, if_pos hid] at q)
  | .gpt id ver i off, u, h, r => by
    have hid : id < n := by simpa [AV.hb] using h
    cases r with
    | val _ _ r => cases r
    | gpt _ _ _ _ _ hi h1 k => exact .gpt _ _ _ _ _ (by simp; omega) h1 fun e sz v bv es q => k e sz v bv es (by rwa [List.getElem?_take, if_pos hid] at q)
  | .cut id ver m, u, h, r => by
    have hid : id < n := by simpa [AV.hb] using h
    cases r with
    | val _ _ r => cases r
    | cut _ _ _ _ hi h1 k => exact .cut _ _ _ _ (by simp; omega) h1 fun e sz v bv es q => k e sz v bv es (by rwa [List.getElem?_take, if_pos hid] at q)
  | .ptr id off, u, h, r => by
    have hid : id < n := by simpa [AV.hb] using h
    cases r with
    | val _ _ r => cases r
    | ptr _ _ _ hi h1 k => exact .ptr _ _ _ (by simp; omega) h1 fun cs q => k cs (by rwa [List.getElem?_take, if_pos hid] at q)
  | .agg cs, u, h, r => by
    obtain ⟨us, rfl, k⟩ := r.agg_inv
    have := takes_rep hn cs (by simpa [AV.hb] using h) k
    exact .agg cs us this.1 this.2
  | .tup cs, u, h, r => by
    obtain ⟨us, rfl, k⟩ := r.tup_inv
    have := takes_rep hn cs (by simpa [AV.hb] using h) k
    exact .tup cs us this.1 this.2
  | .fn f cs, u, h, r => by
    obtain ⟨us, rfl, k⟩ := r.fn_inv
    have := takes_rep hn cs (by simpa [AV.hb] using h) k
    exact .fn f cs us this.1 this.2
  | .ifc t x, u, h, r => by
    obtain ⟨v, rfl, k⟩ := r.ifc_inv
    exact .ifc t x v (take_rep hn x (by simpa [AV.hb] using h) k)
theorem takes_rep {n : Nat} (hn : n ≤ H.length) : (cs : List AV) → ∀ {us : List Value}, AV.hbs n cs = true → Cs (Rep S H pl) cs us → Cs (Rep S (H.take n) pl) cs us
  | [], us, _, k => by rw [k.nil_inv]; exact Cs.nil
  | x :: cs, us, h, k => by
    obtain ⟨u, us', rfl, hx, kc⟩ := k.tail
    simp [AV.hbs] at h
    exact Cs.cons (take_rep hn x h.1 hx) (takes_rep hn cs h.2 kc)
end

theorem hbs_mem {n : Nat} : ∀ {cs : List AV}, AV.hbs n cs = true → ∀ x ∈ cs, AV.hb n x = true
  | [], _, x, h => by cases h
  | y :: cs, h, x, hx => by
    simp [AV.hbs] at h
    rcases List.mem_cons.1 hx with rfl | hx
    · exact h.1
    · exact hbs_mem h.2 x hx

theorem WRel.take (h : WRel A G B w0 S H pl w) {n : Nat} (hn : n ≤ H.length) (hb : (H.take n).all (Blk.hb n) = true) : WRel A G B w0 S (H.take n) pl w := by
  have hget : ∀ (k : Nat) x, (H.take n)[k]? = some x → H[k]? = some x := fun k x e => by
    rw [List.getElem?_take] at e
    split at e
    · exact e
    · cases e
  have hall : ∀ (k : Nat) x, (H.take n)[k]? = some x → x.hb n = true := fun k x e => List.all_eq_true.1 hb _ (List.mem_of_getElem? e)
  have hlive : ∀ k b, live (H.take n) pl k b → live H pl k b := fun k b ⟨⟨x, hx, hl⟩, c⟩ => ⟨⟨x, hget k x hx, hl⟩, c⟩
  refine ⟨⟨fun k cs e => ?_, fun k e sz ver bv es q => ?_, fun k k' b l l' => h.h.apart k k' b (hlive k b l) (hlive k' b l'), fun a u e k l => h.h.sep a u e k (hlive k _ l)⟩, h.imm, h.below, h.base, h.g, h.keep, avd_frame h.av (Nat.le_refl _) (fun k b l => .inl ⟨k, hlive k b l⟩) (fun a u e => .inl e), h.kp⟩
  · obtain ⟨b, c, us, t, h1, h2, h3, h4, h5⟩ := h.h.var k cs (hget k _ e)
    exact ⟨b, c, us, t, h1, h2, h3, takes_rep hn cs (by simpa [Blk.hb] using hall k _ e) h4, h5⟩
  · obtain ⟨h1, h2, h3, h4, xs, h5, h6, h7⟩ := h.h.grow k e sz ver bv es (hget k _ q)
    refine ⟨h1, h2, h3, h4, xs, h5, ⟨h6.1, fun i x u hx hu => ?_⟩, h7⟩
    obtain ⟨c, hc, hxc⟩ := List.mem_flatten.1 (List.mem_of_getElem? hx)
    have hr := h6.2 i x u hx hu
    have := hall k _ q
    simp only [Blk.hb, Bool.or_eq_true] at this
    rcases this with hbv | hes
    · exact .val _ _ (hb_val x (hbs_mem (h4 hbv c hc) x hxc) hr)
    · exact take_rep hn x (hbs_mem (List.all_eq_true.1 hes c hc) x hxc) hr

theorem renG_get (base : Nat) (H0 : List Blk) : ∀ (H : List Blk) (k j : Nat), (renG base H0 k H)[j]? = (H[j]?).map (Blk.ren base H0 (k + j))
  | [], k, j => by simp [renG]
  | b :: r, k, 0 => by simp [renG]
  | b :: r, k, j + 1 => by simp only [renG, List.getElem?_cons_succ]; rw [renG_get base H0 r (k + 1) j, show k + 1 + j = k + (j + 1) by omega]
theorem renG_length (base : Nat) (H0 : List Blk) : ∀ (H : List Blk) (k : Nat), (renG base H0 k H).length = H.length
  | [], k => rfl
  | b :: r, k => by simp [renG, renG_length base H0 r (k + 1)]
theorem renH_grow {base k : Nat} {e sz v : Nat} {bv : Bool} {es : List (List AV)} (h : (renG base H 0 H)[k]? = some (.grow e sz v bv es)) : ∃ v0 es0, H[k]? = some (.grow e sz v0 bv es0) ∧ v = (if k < base then v0 else 0) ∧ es = (if bv then es0 else es0.map (AV.rens base H)) := by
  rw [renG_get, Nat.zero_add] at h
  cases hk : H[k]? with
  | none => simp [hk] at h
  | some x =>
    cases x <;> simp [hk, Blk.ren] at h
    obtain ⟨rfl, rfl, rfl, rfl, rfl⟩ := h
    exact ⟨_, _, rfl, rfl, rfl⟩
theorem ren_len {bv : Bool} {base : Nat} {es : List (List AV)} : (if bv = true then es else es.map (AV.rens base H)).length = es.length := by cases bv <;> simp

mutual
theorem ren_rep {base : Nat} : (x : AV) → ∀ {u : Value}, Rep S H pl x u → Rep S (renG base H 0 H) pl (x.ren base H) u
  | .any, u, r => .val _ _ (.any u)
  | .v x, u, r => by rw [r.v_inv]; exact .val _ _ (.v x)
  | .lst _ _ _ _, u, r => by cases r; exact .val _ _ (by assumption)
  | .z _ _, u, r => by cases r; exact .val _ _ (by assumption)
  | .ept _, u, r => by cases r; exact .val _ _ (by assumption)
  | .own id ver, u, r => by
    cases r with
    | val _ _ r => cases r
    | own _ _ _ hi h1 k =>
      simp only [AV.ren]
      split
      · rename_i hb
        refine .own _ _ _ (by rw [renG_length]; exact hi) h1 fun e sz v bv es q => ?_
        obtain ⟨v0, es0, hq, rfl, rfl⟩ := renH_grow q
        rw [if_pos hb, ren_len]
        exact k _ _ _ _ _ hq
      · rename_i hb
        split
        · rename_i e0 sz0 v0 bv0 es0 hH
          split
          · rename_i hv
            subst hv
            refine .own _ _ _ (by rw [renG_length]; exact hi) h1 fun e sz v bv es q => ?_
            obtain ⟨v1, es1, hq, rfl, rfl⟩ := renH_grow q
            rw [hH] at hq
            cases hq
            rw [if_neg hb, ren_len]
            exact ⟨Nat.le_refl _, fun _ => (k _ _ _ _ _ hH).2 rfl⟩
          · exact .val _ _ (.any u)
        · exact .val _ _ (.any u)
  | .cut id ver m, u, r => by
    cases r with
    | val _ _ r => cases r
    | cut _ _ _ _ hi h1 k =>
      simp only [AV.ren]
      split
      · rename_i hb
        refine .cut _ _ _ _ (by rw [renG_length]; exact hi) h1 fun e sz v bv es q => ?_
        obtain ⟨v0, es0, hq, rfl, rfl⟩ := renH_grow q
        rw [if_pos hb, ren_len]
        exact k _ _ _ _ _ hq
      · rename_i hb
        split
        · rename_i e0 sz0 v0 bv0 es0 hH
          split
          · rename_i hv
            subst hv
            refine .cut _ _ _ _ (by rw [renG_length]; exact hi) h1 fun e sz v bv es q => ?_
            obtain ⟨v1, es1, hq, rfl, rfl⟩ := renH_grow q
            rw [hH] at hq
            cases hq
            rw [if_neg hb, ren_len]
            exact ⟨Nat.le_refl _, fun _ => (k _ _ _ _ _ hH).2 rfl⟩
          · exact .val _ _ (.any u)
        · exact .val _ _ (.any u)
  | .gpt id ver i off, u, r => by
    cases r with
    | val _ _ r => cases r
    | gpt _ _ _ _ _ hi h1 k =>
      simp only [AV.ren]
      split
      · rename_i hb
        refine .gpt _ _ _ _ _ (by rw [renG_length]; exact hi) h1 fun e sz v bv es q => ?_
        obtain ⟨v0, es0, hq, rfl, rfl⟩ := renH_grow q
        rw [if_pos hb]
        exact k _ _ _ _ _ hq
      · rename_i hb
        split
        · rename_i e0 sz0 v0 bv0 es0 hH
          split
          · rename_i hv
            subst hv
            refine .gpt _ _ _ _ _ (by rw [renG_length]; exact hi) h1 fun e sz v bv es q => ?_
            obtain ⟨v1, es1, hq, rfl, rfl⟩ := renH_grow q
            rw [hH] at hq
            cases hq
            rw [if_neg hb]
            exact ⟨Nat.le_refl _, fun _ => (k _ _ _ _ _ hH).2 rfl⟩
          · exact .val _ _ (.any u)
        · exact .val _ _ (.any u)
  | .ptr id off, u, r => by
    cases r with
    | val _ _ r => cases r
    | ptr _ _ _ hi h1 k =>
      refine .ptr _ _ _ (by rw [renG_length]; exact hi) h1 fun cs q => ?_
      rw [renG_get, Nat.zero_add] at q
      cases hk : H[id]? with
      | none => simp [hk] at q
      | some x =>
        cases x <;> simp [hk, Blk.ren] at q
        exact k _ hk
  | .agg cs, u, r => by
    obtain ⟨us, rfl, k⟩ := r.agg_inv
    have := rens_rep (base := base) cs k
    exact .agg _ us this.1 this.2
  | .tup cs, u, r => by
    obtain ⟨us, rfl, k⟩ := r.tup_inv
    have := rens_rep (base := base) cs k
    exact .tup _ us this.1 this.2
  | .fn f cs, u, r => by
    obtain ⟨us, rfl, k⟩ := r.fn_inv
    have := rens_rep (base := base) cs k
    exact .fn f _ us this.1 this.2
  | .ifc t x, u, r => by
    obtain ⟨v, rfl, k⟩ := r.ifc_inv
    exact .ifc t _ v (ren_rep x k)
theorem rens_rep {base : Nat} : (cs : List AV) → ∀ {us : List Value}, Cs (Rep S H pl) cs us → Cs (Rep S (renG base H 0 H) pl) (AV.rens base H cs) us
  | [], us, k => by rw [k.nil_inv]; exact Cs.nil
  | x :: cs, us, k => by
    obtain ⟨u, us', rfl, hx, kc⟩ := k.tail
    exact Cs.cons (ren_rep x hx) (rens_rep cs kc)
end
theorem rens_length (base : Nat) : ∀ cs : List AV, (AV.rens base H cs).length = cs.length
  | [] => rfl
  | x :: cs => by simp [AV.rens, rens_length base cs]
theorem rens_append (base : Nat) : ∀ cs ds : List AV, AV.rens base H (cs ++ ds) = AV.rens base H cs ++ AV.rens base H ds
  | [], ds => rfl
  | x :: cs, ds => by simp [AV.rens, rens_append base cs ds]
theorem rens_flatten (base : Nat) : ∀ es : List (List AV), (es.map (AV.rens base H)).flatten = AV.rens base H es.flatten
  | [] => rfl
  | c :: es => by simp [rens_append, rens_flatten base es]

theorem WRel.ren (h : WRel A G B w0 S H pl w) (base : Nat) : WRel A G B w0 S (renG base H 0 H) pl w := by
  have hget : ∀ (k : Nat) x, (renG base H 0 H)[k]? = some x → ∃ y, H[k]? = some y ∧ x = y.ren base H k := fun k x e => by
    rw [renG_get, Nat.zero_add] at e
    cases hk : H[k]? with
    | none => simp [hk] at e
    | some y => simp [hk] at e; exact ⟨y, rfl, e.symm⟩
  have hlive : ∀ k b, live (renG base H 0 H) pl k b → live H pl k b := fun k b ⟨⟨x, hx, hl⟩, c⟩ => by
    obtain ⟨y, hy, rfl⟩ := hget k x hx
    exact ⟨⟨y, hy, by cases y <;> simp_all [Blk.ren, Blk.lives]⟩, c⟩
  refine ⟨⟨fun k cs e => ?_, fun k e sz ver bv es q => ?_, fun k k' b l l' => h.h.apart k k' b (hlive k b l) (hlive k' b l'), fun a u e k l => h.h.sep a u e k (hlive k _ l)⟩, h.imm, h.below, h.base, h.g, h.keep, avd_frame h.av (Nat.le_refl _) (fun k b l => .inl ⟨k, hlive k b l⟩) (fun a u e => .inl e), h.kp⟩
  · obtain ⟨y, hy, hyx⟩ := hget k _ e
    cases y <;> simp [Blk.ren] at hyx
    subst hyx
    obtain ⟨b, c, us, t, h1, h2, h3, h4, h5⟩ := h.h.var k _ hy
    exact ⟨b, c, us, t, h1, h2, h3, rens_rep _ h4, h5⟩
  · obtain ⟨v0, es0, hq, rfl, rfl⟩ := renH_grow q
    obtain ⟨h1, h2, h3, h4, xs, h5, h6, h7⟩ := h.h.grow k _ _ _ _ _ hq
    cases bv with
    | true =>
      rw [if_pos (rfl : true = true)]
      refine ⟨h1, h2, h3, h4, xs, h5, ⟨h6.1, fun i x u hx hu => ?_⟩, h7⟩
      obtain ⟨c, hc, hxc⟩ := List.mem_flatten.1 (List.mem_of_getElem? hx)
      exact .val _ _ (hb_val x (hbs_mem (h4 rfl c hc) x hxc) (h6.2 i x u hx hu))
    | false =>
      rw [if_neg (by decide : ¬ (false = true))]
      refine ⟨h1, fun c hcm => ?_, (fun hp => by simp [h3 hp]), (fun hx => absurd hx (by decide)), xs, by simpa using h5, by rw [rens_flatten]; exact rens_rep _ h6, h7⟩
      obtain ⟨c0, hd, rfl⟩ := List.mem_map.1 hcm
      rw [rens_length]
      exact h2 c0 hd

/-- How own memory may have gone on, of the first n blocks. -/
structure ExtN (n B : Nat) (S : Sto) (H : List Blk) (pl : Pl) (S' : Sto) (H' : List Blk) (pl' : Pl) : Prop where
  new : ∀ a u, S' a = some u → S a = some u ∨ B ≤ a.block
  S : S.le S'
  len : n ≤ H'.length
  var : ∀ (k : Nat) cs', k < n → H'[k]? = some (.var cs') → ∃ cs, H[k]? = some (.var cs) ∧ pl' k = pl k
  grow : ∀ (k : Nat) e sz ver bv es', k < n → H'[k]? = some (.grow e sz ver bv es') → ∃ e0 ver0 bv0 es, H[k]? = some (.grow e0 sz ver0 bv0 es) ∧ ver0 ≤ ver ∧ (ver = ver0 → es'.length = es.length ∧ pl' k = pl k)
theorem Ext.toN {S' : Sto} {H' : List Blk} {pl' : Pl} (h : Ext B S H pl S' H' pl') {n : Nat} (hn : n ≤ H.length) : ExtN n B S H pl S' H' pl' :=
  ⟨h.new, h.S, Nat.le_trans hn h.len, fun k cs hk => h.var k cs (by omega), fun k e sz v bv es hk => h.grow k e sz v bv es (by omega)⟩
theorem ExtN.full {S' : Sto} {H' : List Blk} {pl' : Pl} (h : ExtN H.length B S H pl S' H' pl') : Ext B S H pl S' H' pl' := ⟨h.new, h.S, h.len, h.var, h.grow⟩
theorem ExtN.refl {n : Nat} (hn : n ≤ H.length) : ExtN n B S H pl S H pl := (Ext.refl S H pl).toN hn
theorem ExtN.trans {n : Nat} {S1 S2 : Sto} {H1 H2 : List Blk} {pl1 pl2 : Pl} (h : ExtN n B S H pl S1 H1 pl1) (k : ExtN n B S1 H1 pl1 S2 H2 pl2) : ExtN n B S H pl S2 H2 pl2 := by
  refine ⟨fun a u e => (k.new a u e).elim (fun e => h.new a u e) .inr, Sto.le_trans h.S k.S, k.len, fun i cs hi e => ?_, fun i e sz ver bv es hi q => ?_⟩
  · obtain ⟨cs1, e1, p1⟩ := k.var i cs hi e
    obtain ⟨cs0, e0, p0⟩ := h.var i cs1 hi e1
    exact ⟨cs0, e0, p1.trans p0⟩
  · obtain ⟨x1, v1, b1, es1, e1, g1, k1⟩ := k.grow i e sz ver bv es hi q
    obtain ⟨x0, v0, b0, es0, e0, g0, k0⟩ := h.grow i _ _ _ _ _ hi e1
    refine ⟨x0, v0, b0, es0, e0, Nat.le_trans g0 g1, fun hv => ?_⟩
    have a1 := k1 (by omega)
    have a0 := k0 (by omega)
    exact ⟨a1.1.trans a0.1, a1.2.trans a0.2⟩

theorem clean0_sound {S0 : Sto} {H0 : List Blk} {pl0 : Pl} {s : St} {a : Act} {n : Nat} (hn : s.base ≤ n) (hnl : n ≤ s.H.length) (hE : ExtN s.base B S0 H0 pl0 S s.H pl) (ht : TRel ds S s.H pl s.tmps a) (h : WRel A G B w0 S s.H pl w) :
    ExtN s.base B S0 H0 pl0 S (clean0 n s).H pl ∧ TRel ds S (clean0 n s).H pl (clean0 n s).tmps a ∧ WRel A G B w0 S (clean0 n s).H pl w ∧ (clean0 n s).base = s.base ∧ s.base ≤ (clean0 n s).H.length := by
  unfold clean0
  split
  · rename_i hb
    have hget : ∀ (k : Nat) x, k < s.base → (renG s.base (s.H.take n) 0 (s.H.take n))[k]? = some x → ∃ y, s.H[k]? = some y ∧ x = y.ren s.base (s.H.take n) k := fun k x hk e => by
      rw [renG_get, Nat.zero_add, List.getElem?_take, if_pos (by omega)] at e
      cases hy : s.H[k]? with
      | none => simp [hy] at e
      | some y => simp [hy] at e; exact ⟨y, rfl, e.symm⟩
    have hw := (h.take hnl hb).ren s.base
    refine ⟨⟨hE.new, hE.S, by rw [renG_length]; simp; omega, fun k cs hk e => ?_, fun k e sz ver bv es hk q => ?_⟩, ⟨ht.1, by simp [ht.2.1], fun i x u hx hu => ?_⟩, hw, rfl, by rw [renG_length]; simp; omega⟩
    · obtain ⟨y, hy, hyx⟩ := hget k _ hk e
      cases y <;> simp [Blk.ren] at hyx
      exact hE.var k _ hk hy
    · obtain ⟨y, hy, hyx⟩ := hget k _ hk q
      cases y <;> simp [Blk.ren] at hyx
      obtain ⟨rfl, rfl, rfl, rfl, rfl⟩ := hyx
      obtain ⟨e0, v0, bv0, es0, h1, h2, h3⟩ := hE.grow k _ _ _ _ _ hk hy
      refine ⟨e0, v0, bv0, es0, h1, by rw [if_pos hk]; exact h2, fun hv => ?_⟩
      rw [if_pos hk] at hv
      obtain ⟨h4, h5⟩ := h3 hv
      exact ⟨by rw [ren_len]; exact h4, h5⟩
    · simp only [List.getElem?_map] at hx
      cases hy : s.tmps[i]? with
      | none => simp [hy] at hx
      | some y =>
        simp [hy] at hx
        subst hx
        split
        · rename_i hyb
          exact ren_rep y (take_rep hnl y hyb (ht.2.2 i y u hy hu))
        · exact .val _ _ (.any u)
  · exact ⟨hE, ht, h, rfl, by omega⟩

theorem keepN_le {kl : List (List Nat × List Nat × List Nat)} {c : Code} {n b : Nat} {s : St} (h1 : b ≤ n) (h2 : b ≤ s.H.length) : b ≤ keepN kl c n s := by
  unfold keepN
  split
  · exact h2
  · exact h1
theorem clean_sound {S0 : Sto} {H0 : List Blk} {pl0 : Pl} {s : St} {a : Act} {n : Nat} (hn : s.base ≤ n) (hl : s.base ≤ s.H.length) (hE : ExtN s.base B S0 H0 pl0 S s.H pl) (ht : TRel ds S s.H pl s.tmps a) (h : WRel A G B w0 S s.H pl w) :
    ExtN s.base B S0 H0 pl0 S (clean n s).H pl ∧ TRel ds S (clean n s).H pl (clean n s).tmps a ∧ WRel A G B w0 S (clean n s).H pl w ∧ (clean n s).base = s.base ∧ s.base ≤ (clean n s).H.length :=
  clean0_sound (Nat.le_min.2 ⟨hn, hl⟩) (Nat.min_le_right _ _) hE ht h

/-- The marks of loops over functions that a call has gone through; in a round: the loop's record. -/
def mkD (D : Nat) : Deferred := { target := .collected D, args := #[] }
def DRel (rd : Option Nat) (N : Nat) (ds : List Deferred) (w : World) : Prop := match rd with
  | none => ∃ Ds : List Nat, ds = Ds.map mkD ∧ Ds.Pairwise (· ≠ ·) ∧ ∀ D ∈ Ds, N ≤ D ∧ w.heap[D]? = some (.deferred (some []))
  | some l => ds = [] ∧ ∃ r, w.heap[l]? = some (.loop r)
theorem DRel.keep {rd : Option Nat} {N : Nat} {w w' : World} (h : DRel rd N ds w) (k : KeepsOthers w w') : DRel rd N ds w' := by
  cases rd with
  | none =>
    obtain ⟨Ds, h1, h2, h3⟩ := h
    exact ⟨Ds, h1, h2, fun D hD => ⟨(h3 D hD).1, k.same _ _ (h3 D hD).2 rfl⟩⟩
  | some l =>
    obtain ⟨h1, r, hr⟩ := h
    exact ⟨h1, r, k.same _ _ hr rfl⟩

/-- What is owed behind code. -/
def PostN (P : Program) (A : Nat → Prop) (G : World → Prop) (rd : Option Nat) (n B : Nat) (w0 w : World) (S : Sto) (H : List Blk) (pl : Pl) (s : St) (K : Act → World → Prop) : Prop :=
  s.base = n → n ≤ s.H.length → ∀ a S' pl' w' ds', ExtN n B S H pl S' s.H pl' → WRel A G B w0 S' s.H pl' w' → TRel ds' S' s.H pl' s.tmps a → DRel rd w0.heap.size ds' w' → Stp A w w' → K a w'

def Ex.to : Ex → Exit
  | .norm => .normal
  | .exit id => .exit id
  | .ret => .ret


def resM (g : Nat → Value) (r : ResultVar) : Sem Value :=
  match r with
  | .tmp t => pure (g t)
  | .cell ad t => do loadVar t (← asAddr (g ad))
theorem results_sound (hK : CtxOk P C G) {tmps : List AV} {g : Nat → Value} (ht : ∀ t, Rep S H pl (tmps.getD t .any) (g t)) (h : WRel A G B w0 S H pl w) : ∀ (rs : List ResultVar) (xs : List AV), resA C tmps H rs = some xs →
    ∃ us, (rs.mapM (resM g)).run P w = .ok us w ∧ Cs (Rep S H pl) xs us
  | [], xs, e => by
    simp only [resA, Option.some.injEq] at e
    subst e
    exact ⟨[], by simp, Cs.nil⟩
  | .tmp t :: rs, xs, e => by
    simp only [resA] at e
    cases hr : resA C tmps H rs with
    | none => rw [hr] at e; cases e
    | some ys =>
      rw [hr] at e
      simp only [Option.some.injEq] at e
      subst e
      obtain ⟨us, h1, h2⟩ := results_sound hK ht h rs ys hr
      exact ⟨g t :: us, by simp [List.mapM_cons, Sem.run_bind, h1, resM], Cs.cons (ht t) h2⟩
  | .cell ad t :: rs, xs, e => by
    simp only [resA] at e
    cases hx : loadA C t (tmps.getD ad .any) H with
    | none => rw [hx] at e; cases e
    | some x =>
      cases hr : resA C tmps H rs with
      | none => rw [hx, hr] at e; cases e
      | some ys =>
        rw [hx, hr] at e
        simp only [Option.some.injEq] at e
        subst e
        obtain ⟨us, h1, h2⟩ := results_sound hK ht h rs ys hr
        obtain ⟨r, hl, hrr⟩ := load_sound hK.td h (ht ad) hx
        have hld : ∃ p, g ad = .pointer (some p) ∧ (loadVar t p).run P w = .ok r w := by
          generalize g ad = u at hl
          unfold Instr.loadAt Instr.sureAddr at hl
          split at hl
          · rename_i p
            exact ⟨p, rfl, by simpa [Sem.run_bind] using hl⟩
          · simp [Sem.run_bind, stuck, Sem.run, Result.andThen] at hl
        obtain ⟨p, hp, hlp⟩ := hld
        exact ⟨r :: us, by simp [List.mapM_cons, Sem.run_bind, h1, hp, hlp, asAddr, resM], Cs.cons hrr h2⟩

def resOne : List AV → AV
  | [x] => x
  | xs => .tup xs
theorem results_run (hK : CtxOk P C G) {fn : Func} {tmps : List AV} {a : Act} (ht : TRel ds S H pl tmps a) (h : WRel A G B w0 S H pl w) {xs : List AV} (e : resA C tmps H fn.results.toList = some xs) :
    ∃ u, (results fn a.tmps).run P w = .ok u w ∧ Rep S H pl (resOne xs) u := by
  have hm : (results fn a.tmps) = (do let vs ← fn.results.mapM (resM fun t => a.tmps.getD t undef); pure (if h : vs.size = 1 then vs[0] else .tuple vs)) := rfl
  obtain ⟨g, hg⟩ : ∃ g : Nat → Value, g = fun t => a.tmps.getD t undef := ⟨_, rfl⟩
  rw [← hg] at hm
  obtain ⟨us, h1, h2⟩ := results_sound (g := g) hK (fun t => by rw [hg]; exact ht.ev (.tmp t)) h _ xs e
  rw [hm, Array.mapM_eq_mapM_toList]
  refine ⟨if h : us.toArray.size = 1 then us.toArray[0] else .tuple us.toArray, by simp [Sem.run_bind, h1], ?_⟩
  clear e hm h1
  match xs, h2 with
  | [], h2 =>
    obtain rfl := h2.nil_inv
    exact .tup _ [] h2.1 h2.2
  | [x], h2 =>
    obtain ⟨u, us', rfl, hx, hc⟩ := h2.tail
    obtain rfl := hc.nil_inv
    simpa [resOne] using hx
  | x :: y :: r, h2 =>
    rw [dif_neg (by simp [h2.1])]
    exact .tup _ us h2.1 h2.2

theorem evOps_base {call : Nat → List AV → List Blk → Option (AV × List Blk)} {ops : Array Oper} : ∀ (l : List Oper) (s s' : St), evOps C P call ops l s = some s' → s'.base = s.base
  | [], s, s', e => by simp only [evOps, Option.some.injEq] at e; rw [e]
  | o :: l, s, s', e => by
    simp only [evOps] at e
    split at e
    · split at e
      · exact (evOps_base l _ s' e).trans rfl
      · cases e
    · exact (evOps_base l _ s' e).trans rfl
    · cases e
theorem evDraw_base {call : Nat → List AV → List Blk → Option (AV × List Blk)} {ops : Array Oper} {s s' : St} (e : evDraw C P call ops s = some s') : s'.base = s.base := by
  unfold evDraw at e
  split at e
  · split at e
    · obtain rfl := Option.some.inj e; rfl
    · split at e
      · exact (evOps_base _ _ s' e).trans rfl
      · cases e
  · split at e
    · split at e
      · split at e
        · obtain rfl := Option.some.inj e; rfl
        · cases e
      · cases e
    · split at e
      · split at e
        · split at e
          · exact (evOps_base _ _ s' e).trans rfl
          · cases e
        · cases e
      · cases e

theorem TRel.wipe {S : Sto} {H : List Blk} {pl : Pl} {a : Act} : ∀ (ks : List Nat) {tmps : List AV}, TRel ds S H pl tmps a → TRel ds S H pl (wipeT ks tmps) a
  | [], tmps, h => h
  | k :: ks, tmps, h => TRel.wipe ks ⟨h.1, by rw [List.length_set]; exact h.2.1, fun i x u hx hu => by
      rw [List.getElem?_set] at hx
      split at hx
      · split at hx
        · obtain rfl := Option.some.inj hx
          exact .val _ _ (.any _)
        · cases hx
      · exact h.2.2 i x u hx hu⟩

theorem cut0_sound {B : Nat} {w0 w : World} {S S0 : Sto} {H0 : List Blk} {pl pl0 : Pl} {s : St} {a : Act} {n : Nat} (hn : s.base ≤ n) (hnl : n ≤ s.H.length) (hE : ExtN s.base B S0 H0 pl0 S s.H pl) (ht : TRel ds S s.H pl s.tmps a) (h : WRel A G B w0 S s.H pl w) :
    ExtN s.base B S0 H0 pl0 S (cut0 n s).H pl ∧ TRel ds S (cut0 n s).H pl (cut0 n s).tmps a ∧ WRel A G B w0 S (cut0 n s).H pl w ∧ (cut0 n s).base = s.base ∧ s.base ≤ (cut0 n s).H.length := by
  unfold cut0
  split
  · rename_i hb
    rw [Bool.and_eq_true] at hb
    have hget : ∀ (k : Nat), k < s.base → (s.H.take n)[k]? = s.H[k]? := fun k hk => by rw [List.getElem?_take, if_pos (by omega)]
    refine ⟨⟨hE.new, hE.S, by simp; omega, fun k cs hk e => ?_, fun k e sz ver bv es hk q => ?_⟩, ⟨ht.1, ht.2.1, fun i x u hx hu => ?_⟩, h.take hnl hb.2, rfl, by simp; omega⟩
    · rw [hget k hk] at e; exact hE.var k _ hk e
    · rw [hget k hk] at q; exact hE.grow k _ _ _ _ _ hk q
    · exact take_rep hnl x (List.all_eq_true.1 hb.1 x (List.mem_of_getElem? hx)) (ht.2.2 i x u hx hu)
  · exact ⟨hE, ht, h, rfl, by omega⟩
theorem leave_sound {B : Nat} {w0 w : World} {S S0 : Sto} {H0 : List Blk} {pl pl0 : Pl} {c : Code} {s : St} {a : Act} {n : Nat} (hn : s.base ≤ n) (hl : s.base ≤ s.H.length) (hE : ExtN s.base B S0 H0 pl0 S s.H pl) (ht : TRel ds S s.H pl s.tmps a) (h : WRel A G B w0 S s.H pl w) :
    ExtN s.base B S0 H0 pl0 S (leave C.kl c n s).H pl ∧ TRel ds S (leave C.kl c n s).H pl (leave C.kl c n s).tmps a ∧ WRel A G B w0 S (leave C.kl c n s).H pl w ∧ (leave C.kl c n s).base = s.base ∧ s.base ≤ (leave C.kl c n s).H.length :=
  cut0_sound (s := ⟨wipeT (killsX C.kl c) s.tmps, s.H, s.base⟩) (Nat.le_min.2 ⟨hn, hl⟩) (Nat.min_le_right _ _) hE (TRel.wipe _ ht) h

/-- What a way to run code owes. -/
def RunOk (P : Program) (G : World → Prop) (B : Nat) (run : Code → St → Option (Ex × St)) : Prop :=
  ∀ (rd : Option Nat) (dp : Nat) (A : Nat → Prop) (w0 : World), (∀ w', Below B w0 w' → G w') → (∀ b, A b → b < w0.heap.size) → B ≤ w0.heap.size → ∀ (c : Code) (s : St) (e : Ex) (s' : St) (S : Sto) (pl : Pl) (ds : List Deferred) (a : Act) (w : World) (Q : Exit → Act → World → Prop),
    run c s = some (e, s') → s.base ≤ s.H.length → TRel ds S s.H pl s.tmps a → DRel rd w0.heap.size ds w → WRel A G B w0 S s.H pl w → PostN P A G rd s.base B w0 w S s.H pl s' (Q e.to) → c.wpIn (Fc rd) dp P Q a w

/-- The world turns in a block that holds no cells. -/
theorem WRel.other (hG : ∀ w', Below B w0 w' → G w') (h : WRel A G B w0 S H pl w) {l : Nat} {o : Obj} (o' : Obj) (hl : w.heap[l]? = some o) (ho : o.isCells = false) (hB : B ≤ l) (h0 : w0.heap[l]? = none ∨ w0.heap.size ≤ l) (hA : ¬ A l) : WRel A G B w0 S H pl (w.putObj l o') := by
  have hoth : ∀ k, k ≠ l → (w.putObj l o').heap[k]? = w.heap[k]? := fun k hk => World.putObj_heap_other hk
  have hb : Below B w0 (w.putObj l o') := ⟨h.below.os, h.below.tape, h.below.output, by rw [World.putObj_size]; exact h.below.size, fun k hk => (hoth k (by omega)).trans (h.below.block k hk)⟩
  have hl0 : w0.heap[l]? = none := h0.elim id fun q => Array.getElem?_eq_none q
  have hne : ∀ (k : Nat) cs t fr, w.heap[k]? = some (.cells cs t fr) → k ≠ l := fun k cs t fr e q => by
    subst q
    rw [hl] at e
    cases e
    cases ho
  have hcell : ∀ a u, w.cell? a = some u → (w.putObj l o').cell? a = some u := fun a u e => by
    unfold World.cell? at e ⊢
    rw [hoth a.block fun q => by rw [q, hl] at e; cases o <;> first | cases e | cases ho]
    exact e
  refine ⟨⟨fun k cs e => ?_, fun k e sz ver bv es q => ?_, h.h.apart, h.h.sep⟩, fun a u e => hcell a u (h.imm a u e), hb, by rw [World.putObj_size]; exact h.base, hG _ hb, ⟨by rw [World.putObj_size]; exact h.keep.size, fun k o1 hk ho1 => ?_⟩,
    avd_frame h.av (by rw [World.putObj_size]; exact Nat.le_refl _) (fun k b l => .inl ⟨k, l⟩) (fun a u e => .inl e), fun b hb' => (hoth b fun q => hA (q ▸ hb')).trans (h.kp b hb')⟩
  · obtain ⟨b, c, us, t, h1, h2, h3, h4, h5⟩ := h.h.var k cs e
    exact ⟨b, c, us, t, h1, h2, (hoth b (hne _ _ _ _ h3)).trans h3, h4, h5⟩
  · obtain ⟨h1, h2, h3, h4, xs, ⟨h5, h6⟩, h7, h8⟩ := h.h.grow k e sz ver bv es q
    refine ⟨h1, h2, h3, h4, xs, ⟨h5, ?_⟩, h7, h8⟩
    rcases h6 with h6 | ⟨g, cap, cur, b1, b2, b3, b4⟩
    · exact .inl h6
    · exact .inr ⟨g, cap, cur, b1, b2, (hoth g (hne _ _ _ _ b3)).trans b3, b4⟩
  · refine (hoth k fun q => ?_).trans (h.keep.same k o1 hk ho1)
    subst q
    rw [hl0] at hk
    cases hk
/-- .. in blocks that are nobody's. -/
theorem WRel.step (hG : ∀ w', Below B w0 w' → G w') (h : WRel A G B w0 S H pl w) {w' : World} (hb : Below w.heap.size w w') : WRel A G B w0 S H pl w' :=
  ⟨h.h.frame hb S.le_refl (fun _ _ e _ => e), fun a u e => by rw [hb.cell (World.block_lt_of_cell? w _ (h.imm a u e))]; exact h.imm a u e, h.below.trans (hb.mono h.base), Nat.le_trans h.base hb.size, hG _ (h.below.trans (hb.mono h.base)), h.keep.trans (KeepsOthers.of_below hb),
    avd_frame h.av hb.size (fun k b l => .inl ⟨k, l⟩) (fun a u e => .inl e), fun b hA => (hb.block b (h.av.old b hA)).trans (h.kp b hA)⟩
theorem WRel.nothing (h : WRel A G B w0 S H pl w) {l : Nat} {o : Obj} (hl : w.heap[l]? = some o) (ho : o.isCells = false) : (∀ k, ¬ live H pl k l) ∧ ∀ a u, S a = some u → a.block ≠ l := by
  refine ⟨fun k lv => ?_, fun a u e q => ?_⟩
  · obtain ⟨cs, t, hc⟩ := h.h.cells lv
    rw [hl] at hc
    cases hc
    cases ho
  · have := h.imm a u e
    unfold World.cell? at this
    rw [q, hl] at this
    cases o <;> first | cases this | cases ho
theorem leaves_marks (hG : ∀ w', Below B w0 w' → G w') (hK : CtxOk P C G) (hAo : ∀ b, A b → b < w0.heap.size) {fn : Func} {s : St} {a : Act} {S0 : Sto} {H0 : List Blk} {pl0 : Pl} {xs : List AV} : ∀ (Ds : List Nat) (w : World), Ds.Pairwise (· ≠ ·) → (∀ D ∈ Ds, w0.heap.size ≤ D ∧ w.heap[D]? = some (.deferred (some []))) → WRel A G B w0 S s.H pl w → B ≤ w0.heap.size → TRel ds S s.H pl s.tmps a → resA C s.tmps s.H fn.results.toList = some xs → Ext B S0 H0 pl0 S s.H pl →
    LeavesInM Fence.wide 0 P fn a.tmps (fun e w' => ∃ u S' pl', e = .returned u ∧ Ext B S0 H0 pl0 S' s.H pl' ∧ WRel A G B w0 S' s.H pl' w' ∧ Rep S' s.H pl' (resOne xs) u) (Ds.map mkD) .returning w
  | [], w, _, _, hw, hB0, ht, hr, hE => by
    obtain ⟨u, hu, hR⟩ := results_run hK ht hw hr
    exact (show LeavesIn Fence.wide 0 P fn a.tmps _ [] .returning w from ⟨u, hu, u, S, pl, rfl, hE, hw, hR⟩)
  | D :: Ds, w, hp, hD, hw, hB0, ht, hr, hE => by
    have hp := List.pairwise_cons.1 hp
    obtain ⟨hDB, hDw⟩ := hD D List.mem_cons_self
    refine ⟨(fun q => by cases q), .inl ⟨D, _, rfl, run_takeDeferred hDw, ?_⟩⟩
    refine leaves_marks hG hK hAo Ds _ hp.2 (fun D' hD' => ?_) (hw.other hG (.deferred none) hDw rfl (Nat.le_trans hB0 hDB) (.inr hDB) fun q => by have := hAo D q; omega) hB0 ht hr hE
    have h1 := hD D' (List.mem_cons_of_mem _ hD')
    exact ⟨h1.1, (World.putObj_heap_other (fun q => hp.1 D' hD' q.symm)).trans h1.2⟩
/-! A scope, in a round too. -/
theorem stepR_scope' {b : Frame} {a : Act} {k : List Item} {cs : List Frame} {w : World} {c : Code} : step P (lone (b.atR a (.code (.scope c) :: k)) cs w) = .next (lone (b.atR a (.code c :: .inScope c :: k)) cs w) :=
  step_lone_go (by simp [stepG, stepG.exec, Frame.atR])
theorem stepR_inScope' {b : Frame} {a : Act} {k : List Item} {cs : List Frame} {w : World} {c : Code} : step P (lone (b.atR a (.inScope c :: k)) cs w) = .next (lone (b.atR a k) cs w) :=
  step_lone_go (by simp [stepG, stepG.exec, Frame.atR])
theorem wpIn_scope' {F : Fence} {n : Nat} {Q : Exit → Act → World → Prop} {a : Act} {w : World} {c : Code} (h : c.wpIn F n P (Exit.noGoto Q) a w) : (Code.scope c).wpIn F n P Q a w := by
  intro b k cs hro hb hr
  have h0 : (lone (b.atR a (.code (.scope c) :: k)) cs w).fenced P F := fenced_calm hb hr rfl
  obtain ⟨e, a₁, w₁, hq, harr⟩ := h b (.inScope c :: k) cs hro hb hr
  cases e with
  | normal => exact ⟨.normal, a₁, w₁, hq, .head h0 stepR_scope' (StepsIn.trans harr (.one (fenced_calm hb hr rfl) stepR_inScope'))⟩
  | exit id =>
    have hx : exitTo id (.inScope c :: k) = exitTo id k := by simp [exitTo]
    exact ⟨.exit id, a₁, w₁, hq, fun k' hk => .head h0 stepR_scope' (harr.1 k' (by rw [hx]; exact hk)), fun hr' hk => let ⟨k₁, h1, h2⟩ := harr.2 hr' (by rw [hx]; exact hk); ⟨k₁, h1, .head h0 stepR_scope' h2⟩⟩
  | goto l => exact hq.elim
  | ret => exact ⟨_, a₁, w₁, hq, .of_steps (.one h0 stepR_scope') harr⟩
  | panic ch => exact ⟨_, a₁, w₁, hq, .of_steps (.one h0 stepR_scope') harr⟩
  | outgrown => exact ⟨_, a₁, w₁, hq, .of_steps (.one h0 stepR_scope') harr⟩

/-- .. in what is told of blocks that others hold. -/
theorem WRel.conv {A2 : Nat → Prop} {w1 : World} (h : WRel A2 G B w1 S H pl w) (hA : ∀ b, A b → A2 b) (hb : Below B w0 w) (hk : KeepsOthers w0 w) (hkp : ∀ b, A b → w.heap[b]? = w0.heap[b]?) : WRel A G B w0 S H pl w :=
  ⟨h.h, h.imm, hb, h.base, h.g, hk, ⟨fun k b l ha => h.av.liv k b l (hA b ha), fun a u e ha => h.av.sto a u e (hA _ ha), fun b ha => h.av.old b (hA b ha)⟩, hkp⟩
/-- A loop's record turns. -/
theorem WRel.record (hGw : ∀ w', Below B w w' → G w') (h : WRel A G B w S H pl w) {l : Nat} {o : Obj} (o' : Obj) (hl : w.heap[l]? = some o) (ho : o.isCells = false) (hB : B ≤ l) (hA : ¬ A l) : WRel A G B (w.putObj l o') S H pl (w.putObj l o') := by
  have hoth : ∀ k, k ≠ l → (w.putObj l o').heap[k]? = w.heap[k]? := fun k hk => World.putObj_heap_other hk
  have hb : Below B w (w.putObj l o') := ⟨rfl, rfl, rfl, by rw [World.putObj_size]; exact Nat.le_refl _, fun k hk => hoth k (by omega)⟩
  have hne : ∀ (k : Nat) cs t fr, w.heap[k]? = some (.cells cs t fr) → k ≠ l := fun k cs t fr e q => by
    subst q
    rw [hl] at e
    cases e
    cases ho
  have hcell : ∀ a u, w.cell? a = some u → (w.putObj l o').cell? a = some u := fun a u e => by
    unfold World.cell? at e ⊢
    rw [hoth a.block fun q => by rw [q, hl] at e; cases o <;> first | cases e | cases ho]
    exact e
  refine ⟨⟨fun k cs e => ?_, fun k e sz ver bv es q => ?_, h.h.apart, h.h.sep⟩, fun a u e => hcell a u (h.imm a u e), Below.refl _ _, by rw [World.putObj_size]; exact h.base, hGw _ hb, KeepsOthers.refl _,
    avd_frame h.av (by rw [World.putObj_size]; exact Nat.le_refl _) (fun k b l => .inl ⟨k, l⟩) (fun a u e => .inl e), fun _ _ => rfl⟩
  · obtain ⟨b, c, us, t, h1, h2, h3, h4, h5⟩ := h.h.var k cs e
    exact ⟨b, c, us, t, h1, h2, (hoth b (hne _ _ _ _ h3)).trans h3, h4, h5⟩
  · obtain ⟨h1, h2, h3, h4, xs, ⟨h5, h6⟩, h7, h8⟩ := h.h.grow k e sz ver bv es q
    refine ⟨h1, h2, h3, h4, xs, ⟨h5, ?_⟩, h7, h8⟩
    rcases h6 with h6 | ⟨g, cap, cur, b1, b2, b3, b4⟩
    · exact .inl h6
    · exact .inr ⟨g, cap, cur, b1, b2, (hoth g (hne _ _ _ _ b3)).trans b3, b4⟩
/-- Is what is told away from an iterator's own blocks? -/
def Away (n0 m : Nat) (S : Sto) (H : List Blk) (pl : Pl) : Prop := (∀ k b, live H pl k b → b < n0 ∨ n0 + m ≤ b) ∧ ∀ a u, S a = some u → a.block < n0 ∨ n0 + m ≤ a.block
/-- The iterator takes a step. -/
theorem WRel.foreign (hG : ∀ w', Below B w0 w' → G w') (h : WRel A G B w0 S H pl w) {n0 m : Nat} {w' : World} (hn : w0.heap.size ≤ n0) (hB : B ≤ n0) (hA : ∀ b, A b → b < n0) (haw : Away n0 m S H pl) (hs : StepR n0 m w w') : WRel A G B w0 S H pl w' := by
  have hlow : ∀ b, b < w.heap.size → (b < n0 ∨ n0 + m ≤ b) → w'.heap[b]? = w.heap[b]? := hs.block
  have hb : Below B w0 w' := ⟨hs.os.trans h.below.os, hs.tape.trans h.below.tape, hs.output.trans h.below.output, Nat.le_trans h.below.size hs.size, fun k hk => (hlow k (Nat.lt_of_lt_of_le hk h.base) (.inl (by omega))).trans (h.below.block k hk)⟩
  have hcell : ∀ a u, w.cell? a = some u → (a.block < n0 ∨ n0 + m ≤ a.block) → w'.cell? a = some u := fun a u e ha => by
    have hlt := World.block_lt_of_cell? w _ e
    unfold World.cell? at e ⊢
    rw [hlow _ hlt ha]
    exact e
  refine ⟨⟨fun k cs e => ?_, fun k e sz ver bv es q => ?_, h.h.apart, h.h.sep⟩, fun a u e => hcell a u (h.imm a u e) (haw.2 a u e), hb, Nat.le_trans h.base hs.size, hG _ hb, ⟨Nat.le_trans h.keep.size hs.size, fun k o hk ho => ?_⟩,
    avd_frame h.av hs.size (fun k b l => .inl ⟨k, l⟩) (fun a u e => .inl e), fun b hb' => (hlow b (h.av.old b hb') (.inl (hA b hb'))).trans (h.kp b hb')⟩
  · obtain ⟨b, c, us, t, h1, h2, h3, h4, h5⟩ := h.h.var k cs e
    exact ⟨b, c, us, t, h1, h2, (hlow b (Array.getElem?_eq_some_iff.1 h3).1 (haw.1 k b ⟨⟨_, e, trivial⟩, c, h1⟩)).trans h3, h4, h5⟩
  · obtain ⟨h1, h2, h3, h4, xs, ⟨h5, h6⟩, h7, h8⟩ := h.h.grow k e sz ver bv es q
    refine ⟨h1, h2, h3, h4, xs, ⟨h5, ?_⟩, h7, h8⟩
    rcases h6 with h6 | ⟨g, cap, cur, b1, b2, b3, b4⟩
    · exact .inl h6
    · have hp : pl k = some (g, cap) := by
        cases hp : pl k with
        | none => rw [hp] at b1; simp [slv] at b1
        | some bc =>
          obtain ⟨b', c'⟩ := bc
          rw [hp] at b1
          simp [slv] at b1
          obtain ⟨rfl, rfl⟩ := b1
          rfl
      exact .inr ⟨g, cap, cur, b1, b2, (hlow g (Array.getElem?_eq_some_iff.1 b3).1 (haw.1 k g ⟨⟨_, q, trivial⟩, cap, hp⟩)).trans b3, b4⟩
  · have h1 := (Array.getElem?_eq_some_iff.1 hk).1
    have h2 := h.keep.same k o hk ho
    exact (hlow k (Array.getElem?_eq_some_iff.1 h2).1 (.inl (by omega))).trans h2
theorem setPs_rel : ∀ (ps : List Nat) (row : List AV) (us : List Value) (t : List AV) (g : Array Value), us.length = ps.length → Cs (Rep S H pl) row us → g.size = t.length → (∀ (i : Nat) x u, t[i]? = some x → g[i]? = some u → Rep S H pl x u) →
    ((ps.zip us).foldl (fun t (p, v) => t.setIfInBounds p v) g).size = (setPs t ps row).length ∧ ∀ (i : Nat) x u, (setPs t ps row)[i]? = some x → ((ps.zip us).foldl (fun t (p, v) => t.setIfInBounds p v) g)[i]? = some u → Rep S H pl x u
  | [], row, us, t, g, hl, hc, hs, h => by
    have : us = [] := List.eq_nil_of_length_eq_zero hl
    subst this
    have : row = [] := List.eq_nil_of_length_eq_zero hc.1.symm
    subst this
    exact ⟨hs, h⟩
  | p :: ps, row, us, t, g, hl, hc, hs, h => by
    cases us with
    | nil => cases hl
    | cons u us =>
      cases row with
      | nil => exact absurd hc.1 (by simp)
      | cons x row =>
        obtain ⟨u', us', e, hx, hr⟩ := hc.tail
        cases e
        refine setPs_rel ps row us (t.set p x) (g.setIfInBounds p u) (by simpa using hl) hr (by simp [hs]) fun i y v hy hv => ?_
        rw [Array.getElem?_setIfInBounds] at hv
        rw [List.getElem?_set] at hy
        by_cases e : p = i
        · subst e
          simp only [if_true] at hy hv
          split at hy
          · rw [if_pos (by rw [hs]; assumption)] at hv
            simp at hy hv
            subst hy; subst hv
            exact hx
          · simp at hy
        · rw [if_neg e] at hy hv
          exact h i y v hy hv
theorem rowsA_inv {x : AV} {n : Nat} {rows : List (List AV)} (e : rowsA C x n = some rows) : ∃ f caps q, x = .fn f caps ∧ C.sq f = some q ∧ AV.hbs 0 caps = true ∧ q caps = some rows ∧ ∀ r ∈ rows, r.length = n := by
  unfold rowsA at e
  split at e
  · rename_i f caps
    split at e
    · rename_i q hq
      split at e
      · rename_i hb
        split at e
        · rename_i rs hr
          split at e
          · rename_i ha
            obtain rfl := Option.some.inj e
            exact ⟨f, caps, q, rfl, hq, hb, hr, fun r hr' => Nat.eq_of_beq_eq_true (List.all_eq_true.1 ha r hr')⟩
          · cases e
        · cases e
      · cases e
    · cases e
  · cases e
/-- The marks' block, where a loop lays one. -/
def DX (rd : Option Nat) (w W : World) : Prop := match rd with
  | none => W.heap[w.heap.size]? = some (.deferred (some []))
  | some _ => True
theorem DX.keep {rd : Option Nat} {w W W' : World} (h : DX rd w W) (k : ∀ o, o.isCells = false → W.heap[w.heap.size]? = some o → W'.heap[w.heap.size]? = some o) : DX rd w W' := by
  cases rd with
  | none => exact k _ rfl h
  | some _ => trivial
/-- Entering a loop over a function. -/
theorem enter_loop {rd : Option Nat} {N : Nat} (hD : DRel rd N ds w) (hN : N ≤ w.heap.size) (fn : FuncId) (tmps : Array Value) (ps : Array Tmp) (asg body : Code) :
    ∃ (l : Nat) (mark : List Deferred) (W1 : World) (dd : Nat), (Instr.enterLoop fn tmps ps asg body rd).run P w = .ok (l, mark) W1 ∧ Below w.heap.size w W1 ∧ w.heap.size ≤ l ∧ l + 1 = W1.heap.size ∧
      W1.heap[l]? = some (.loop { state := .ready, pending := none, fn, tmps, params := ps, assign := asg, body, defers := dd }) ∧ DX rd w W1 ∧ (rd = none → w.heap.size < l) ∧
      ∀ W', DRel rd N ds W' → DX rd w W' → DRel rd N (mark ++ ds) W' := by
  cases rd with
  | none =>
    refine ⟨w.heap.size + 1, [mkD w.heap.size], (w.alloc (.deferred (some []))).alloc (.loop { state := .ready, pending := none, fn, tmps, params := ps, assign := asg, body, defers := w.heap.size }), w.heap.size, run_enterLoop_outer _ _ _ _ _,
      ((Below.refl _ _).alloc (Nat.le_refl _) _).alloc (by rw [World.size_alloc]; omega) _, by omega, by rw [World.size_alloc, World.size_alloc], ?_, ?_, fun _ => by omega, fun W' h hx => ?_⟩
    · have := World.alloc_heap_new (w.alloc (.deferred (some []))) (.loop { state := .ready, pending := none, fn, tmps, params := ps, assign := asg, body, defers := w.heap.size })
      rwa [World.size_alloc] at this
    · exact (Below.heap_alloc _ _ _ (by simp)).trans (World.alloc_heap_new w _)
    · obtain ⟨Ds, rfl, hp, hd⟩ := h
      obtain ⟨Ds0, e0, _, hd0⟩ := hD
      have : Ds = Ds0 := by
        have hinj : ∀ (a b : List Nat), a.map mkD = b.map mkD → a = b := by
          intro a
          induction a with
          | nil => intro b hb; cases b with
            | nil => rfl
            | cons => cases hb
          | cons x a ih => intro b hb; cases b with
            | nil => cases hb
            | cons y b =>
              simp only [List.map_cons, List.cons.injEq] at hb
              have h1 : x = y := by have := hb.1; simp only [mkD, Deferred.mk.injEq, Target.collected.injEq, and_true] at this; exact this
              rw [h1, ih b hb.2]
        exact hinj _ _ e0
      subst this
      refine ⟨w.heap.size :: Ds, rfl, List.pairwise_cons.2 ⟨fun D hD' e => ?_, hp⟩, fun D hD' => ?_⟩
      · have := (Array.getElem?_eq_some_iff.1 (hd0 D hD').2).1
        omega
      · rcases List.mem_cons.1 hD' with rfl | hD'
        · exact ⟨hN, hx⟩
        · exact hd D hD'
  | some l0 =>
    obtain ⟨rfl, r, hr⟩ := hD
    refine ⟨w.heap.size, [], w.alloc (.loop { state := .ready, pending := none, fn, tmps, params := ps, assign := asg, body, defers := r.defers }), r.defers, run_enterLoop_inner hr _ _ _ _ _, (Below.refl _ _).alloc (Nat.le_refl _) _, Nat.le_refl _, by rw [World.size_alloc],
      World.alloc_heap_new w _, trivial, (fun q => by cases q), fun W' h _ => h⟩
theorem enters {f : FuncId} {fn : Func} {c : Code} (hf : P.funcs[f]? = some fn) (hname : (fn.name == "runtime.NumGoroutine") = false) (hb : fn.body = some c) (args : Array Value) (w : World) : (callFunc f args).run P w = .ok (.enter f args) w := by
  have h1 : fn.name ≠ "runtime.NumGoroutine" := by simpa using hname
  have h2 : fn.body ≠ none := fun e => by rw [e] at hb; cases hb
  simp [callFunc, hf, h1, h2, go_sem]
theorem clo_drop {α : Type} {l : List α} {k : Nat} (h : k < l.length) : l.drop k = l[k] :: l.drop (k + 1) := List.drop_eq_getElem_cons h
theorem range_sound (hK : CtxOk P C G) {run : Code → St → Option (Ex × St)} (hrun : RunOk P G B run) {rd : Option Nat} {dp : Nat} (hG : ∀ w', Below B w0 w' → G w') {g : Operand} {ps : Array Tmp} {asg body : Code} {s : St} {e : Ex} {s' : St} {a : Act} {Q : Exit → Act → World → Prop} {rows : List (List AV)}
    (hrows : rowsA C (evA s.tmps g) ps.size = some rows) (h : evRows run ps.toList asg body rows (clean s.H.length s) = some (e, s')) (hbs : s.base ≤ s.H.length) (ht : TRel ds S s.H pl s.tmps a) (hD : DRel rd w0.heap.size ds w) (hw : WRel A G B w0 S s.H pl w) (hAo : ∀ b, A b → b < w0.heap.size) (hB0 : B ≤ w0.heap.size)
    (hp : PostN P A G rd s.base B w0 w S s.H pl s' (Q e.to)) : (Code.rangeFunc g ps asg body).wpIn (Fc rd) dp P Q a w := by
  obtain ⟨f, caps, q, hx, hq, hcb, hqr, hlen⟩ := rowsA_inv hrows
  have hv := ht.ev g
  rw [hx] at hv
  obtain ⟨us, hgv, hcaps⟩ := hv.fn_inv
  have hcs : Cs (RepV S) caps us := hbs_val caps hcb hcaps
  obtain ⟨hsq, fnc, hfnc, hbd, hname⟩ := hK.sq f q hq
  obtain ⟨m, encs, henc, hseq⟩ := hsq S caps us rows hcs hqr
  obtain ⟨bd, hbd⟩ : ∃ bd, fnc.body = some bd := by
    cases hb : fnc.body with
    | none => rw [hb] at hbd; cases hbd
    | some bd => exact ⟨bd, rfl⟩
  have eg := enters hfnc hname hbd
  have hNw : w0.heap.size ≤ w.heap.size := hw.below.size
  refine wpIn_rangeFunc ?_
  intro fn hfn
  rw [Fc_round]
  obtain ⟨l, mark, W0, dd, hen, hb01, hlw, hl1, hL0, hX0, hlD, hDm⟩ := enter_loop (P := P) hD hNw fn a.tmps ps asg body
  obtain ⟨rec, hrec⟩ : ∃ rec : LoopState → Option Code → Loop, rec = fun st pe => { state := st, pending := pe, fn, tmps := a.tmps, params := ps, assign := asg, body, defers := dd } := ⟨_, rfl⟩
  have hL0 : W0.heap[l]? = some (.loop (rec .ready none)) := by rw [hrec]; exact hL0
  obtain ⟨n0, hn0⟩ : ∃ n0, W0.heap.size = n0 := ⟨_, rfl⟩
  have hwn : w.heap.size ≤ n0 := by rw [← hn0]; exact hb01.size
  have hln1 : l + 1 = n0 := by rw [← hn0]; exact hl1
  have hln : l < n0 := by omega
  have hlA : ¬ A l := fun q => by have := hAo l q; omega
  have hBl : B ≤ l := by omega
  have hXl : ∀ W W' : World, (∀ k, k ≠ l → W'.heap[k]? = W.heap[k]?) → DX rd w W → DX rd w W' := fun W W' hh hx => by
    cases rd with
    | none =>
      have := hlD rfl
      exact (hh _ (by omega)).trans hx
    | some _ => trivial
  have hW0 : WRel A G B w0 S s.H pl W0 := hw.step hG hb01
  have hst0 : Stp A w W0 := ⟨KeepsOthers.of_below hb01, fun b hb => hb01.block b (hw.av.old b hb)⟩
  have hDk : ∀ W, Stp A w W → DRel rd w0.heap.size ds W := fun W hs => hD.keep hs.keep
  -- what holds ahead of round k
  obtain ⟨JP, hJP⟩ : ∃ JP : Nat → World → Prop, JP = fun k W => ∃ sk S' pl', evRows run ps.toList asg body (rows.drop k) sk = some (e, s') ∧ sk.base = s.base ∧ s.base ≤ sk.H.length ∧ ExtN s.base B S s.H pl S' sk.H pl' ∧ S.le S' ∧
      WRel A G B w0 S' sk.H pl' W ∧ TRel ds S' sk.H pl' sk.tmps a ∧ Away n0 m S' sk.H pl' ∧ Stp A w W ∧ W.heap[l]? = some (.loop (rec .ready none)) ∧ DX rd w W := ⟨_, rfl⟩
  obtain ⟨JQ, hJQ⟩ : ∃ JQ : Nat → Nat → World → Prop, JQ = fun p k W => (∃ sk S' pl', evRows run ps.toList asg body (rows.drop k) sk = some (e, s') ∧ sk.base = s.base ∧ s.base ≤ sk.H.length ∧ ExtN s.base B S s.H pl S' sk.H pl' ∧ S.le S' ∧
      WRel A G B w0 S' sk.H pl' W ∧ TRel ds S' sk.H pl' sk.tmps a ∧ Away n0 m S' sk.H pl' ∧ Stp A w W ∧ W.heap[l]? = some (.loop (rec .ready none)) ∧ DX rd w W ∧ (∀ k b, live sk.H pl' k b → b < p) ∧ (∀ a u, S' a = some u → a.block < p) ∧ l < p) ∧ n0 + m ≤ W.heap.size ∧ (∀ b, A b → b < p) := ⟨_, rfl⟩
  obtain ⟨JX, hJX⟩ : ∃ JX : Nat → World → Prop, JX = fun k W => ∃ c S' pl', (e = .ret ∧ c = Code.ret ∨ ∃ id, e = .exit id ∧ c = .exit id) ∧ s'.base = s.base ∧ s.base ≤ s'.H.length ∧ ExtN s.base B S s.H pl S' s'.H pl' ∧
      WRel A G B w0 S' s'.H pl' W ∧ TRel ds S' s'.H pl' s'.tmps a ∧ Away n0 m S' s'.H pl' ∧ Stp A w W ∧ W.heap[l]? = some (.loop (rec .done (some c))) ∧ DX rd w W := ⟨_, rfl⟩
  have hJ0 : JP 0 W0 := by
    obtain ⟨hE', ht', hw', hbc, hlc⟩ := clean_sound (n := s.H.length) (s := s) hbs hbs (ExtN.refl (S := S) (pl := pl) (B := B) hbs) ht hW0
    rw [hJP]
    refine ⟨_, S, pl, by rw [List.drop_zero]; exact h, hbc, hlc, hE', S.le_refl, hw', ht', ⟨fun k b lv => .inl ?_, fun a u ea => .inl ?_⟩, hst0, hL0, hX0⟩
    · rw [← hn0]; exact (hw'.h.lt lv).2
    · rw [← hn0]; exact World.block_lt_of_cell? W0 _ (hw'.imm a u ea)
  have hStep : ∀ W W', Stp A w W → StepR n0 m W W' → Stp A w W' := fun W W' h1 hs => ⟨⟨Nat.le_trans h1.keep.size hs.size, fun k o hk ho => by
      have h2 := h1.keep.same k o hk ho
      have h3 := (Array.getElem?_eq_some_iff.1 hk).1
      exact (hs.block k (Array.getElem?_eq_some_iff.1 h2).1 (.inl (by omega))).trans h2⟩, fun b hb => by
      have h3 := hw.av.old b hb
      have h4 : b < W.heap.size := Nat.lt_of_lt_of_le h3 h1.keep.size
      exact (hs.block b h4 (.inl (by omega))).trans (h1.kp b hb)⟩
  have hlowO : ∀ (W W' : World) (k : Nat) (o : Obj), StepR n0 m W W' → k < n0 → W.heap[k]? = some o → W'.heap[k]? = some o := fun W W' k o hs hk ho => (hs.block k (Array.getElem?_eq_some_iff.1 ho).1 (.inl hk)).trans ho
  have hDX : ∀ W W', StepR n0 m W W' → DX rd w W → DX rd w W' := fun W W' hs hx => hx.keep fun o _ ho => by
    cases rd with
    | none => have := hlD rfl; exact hlowO W W' _ o hs (by omega) ho
    | some _ => 
      by_cases hk : w.heap.size < n0
      · exact hlowO W W' _ o hs hk ho
      · omega
  have hA0 : ∀ b, A b → b < n0 := fun b hb => by have := hAo b hb; omega
  refine ⟨l, mark, W0, { target := .fn (.func f) us.toArray, args := #[.func (.yield l) #[] #[]] }, W0, f, #[.func (.yield l) #[] #[]] ++ us.toArray, W0, hen, ?_, ?_, ?_, Fc_no rd, ?_⟩
  · simp only [resolve, hgv]
    simp [go_sem]
  · intro f' hf'
    exact Fc_fn rd f'
  · simp [invoke, go_sem]
    exact eg _ _
  refine calls_in ((callsIn_wide (n := dp)).1 ((hseq dp l JP JQ JX W0 (fun k W1 hj => ?_) (fun k W1 W2 hk hj hs hroom => ?_) (fun p k W hk hj => ?_) hJ0).mono ?_))
  · rw [hJP] at hj
    obtain ⟨sk, S', pl', _, _, _, _, hS, hwk, _, _, _, hlk, _⟩ := hj
    refine ⟨fun a u ea => hwk.imm a u (hS a u ea), hwk.g, ?_⟩
    have := (Array.getElem?_eq_some_iff.1 hlk).1
    omega
  · rw [hn0] at hs hroom
    rw [hJP] at hj
    obtain ⟨sk, S', pl', h1, h2, h3, h4, h5, h6, h7, h8, h9, h10, h11⟩ := hj
    have hl10 := (Array.getElem?_eq_some_iff.1 h10).1
    have hsz := h6.below.size
    rw [hJQ]
    exact ⟨⟨sk, S', pl', h1, h2, h3, h4, h5, h6.foreign hG (by omega) (by omega) hA0 h8 hs, h7, h8, hStep _ _ h9 hs, hlowO _ _ _ _ hs hln h10, hDX _ _ hs h11, fun k b lv => (h6.h.lt lv).2, fun a u ea => World.block_lt_of_cell? W1 _ (h6.imm a u ea), hl10⟩, hroom, fun b hb => by have := hAo b hb; omega⟩
  · -- a round
    rw [hn0]
    rw [hJQ] at hj
    obtain ⟨⟨sk, S', pl', hev, hskb, hskl, hEk, hSk, hwk, htk, hak, hsk, hlk, hxk, hlo1, hlo2, hlp⟩, hroom, hAp⟩ := hj
    have hrow : rows[k]? = some rows[k] := List.getElem?_eq_getElem hk
    have hrl : rows[k].length = ps.size := hlen _ (List.getElem_mem hk)
    have hce : Cs (Rep S' sk.H pl') rows[k] (encs k).toList := (henc k _ hrow).mono fun x u r => .val _ _ (r.mono hSk)
    have hes : (encs k).size = ps.size := by rw [← Array.length_toList, hce.1, hrl]
    have hy := run_yield (P := P) (args := encs k) hlk (by rw [hrec]; exact hes)
    rw [hrec] at hy
    refine ⟨fn, _, asg, body, hy, roundIn_of_wpIn trivial ?_⟩
    clear hy
    rw [clo_drop hk, evRows] at hev
    obtain ⟨A2, hA2⟩ : ∃ A2 : Nat → Prop, A2 = fun b => A b ∨ ((n0 ≤ b ∧ b < n0 + m) ∨ (p ≤ b ∧ b < W.heap.size)) := ⟨_, rfl⟩
    have hGk : ∀ w', Below B W w' → G w' := fun w' hb => hG w' (hwk.below.trans hb)
    have hlA2 : ¬ A2 l := by rw [hA2]; rintro (q | q | q) <;> first | exact hlA q | omega
    have hw2 : WRel A2 G B W S' sk.H pl' W := ⟨hwk.h, hwk.imm, Below.refl _ _, hwk.base, hwk.g, KeepsOthers.refl _, by
      rw [hA2]
      exact ⟨fun k b lv hb => hb.elim (hwk.av.liv k b lv) fun q => by have := hak.1 k b lv; have := hlo1 k b lv; omega, fun a u ea hb => hb.elim (hwk.av.sto a u ea) fun q => by have := hak.2 a u ea; have := hlo2 a u ea; omega, fun b hb => hb.elim (hwk.av.old b) fun q => by omega⟩, fun _ _ => rfl⟩
    obtain ⟨t1, t2⟩ := setPs_rel ps.toList rows[k] (encs k).toList sk.tmps a.tmps (by rw [Array.length_toList, Array.length_toList]; exact hes) hce htk.2.1 htk.2.2
    have hT : TRel [] S' sk.H pl' (setPs sk.tmps ps.toList rows[k]) { tmps := (ps.zip (encs k)).foldl (fun t (p, v) => t.setIfInBounds p v) a.tmps, defers := [] } := by
      have ez : (ps.zip (encs k)).foldl (fun t (p, v) => t.setIfInBounds p v) a.tmps = (ps.toList.zip (encs k).toList).foldl (fun (t : Array Value) (p, v) => t.setIfInBounds p v) a.tmps := by
        rw [← Array.foldl_toList, Array.toList_zip]
      exact ⟨rfl, (congrArg Array.size ez).trans t1, fun i x u hx hu => t2 i x u hx (by rw [← ez]; exact hu)⟩
    cases hr1 : run asg ⟨setPs sk.tmps ps.toList rows[k], sk.H, sk.H.length⟩ with
    | none => rw [hr1] at hev; cases hev
    | some r1 =>
    obtain ⟨e1, s1⟩ := r1
    rw [hr1] at hev
    cases e1 with
    | exit id => cases hev
    | ret => cases hev
    | norm =>
    simp only at hev
    refine hrun (some l) _ A2 W hGk hw2.av.old hw2.base asg _ .norm s1 S' pl' [] _ W _ hr1 (Nat.le_refl _) hT ⟨rfl, _, hlk⟩ hw2 fun hb1 hl1' a1 S1 pl1 W2 ds1 hE1 hw1 ht1 hD1 hs1 => ?_
    obtain rfl := hD1.1
    have hlk2 := hs1.keep.same _ _ hlk rfl
    refine ⟨_, run_beginRound hlk2 (by rw [hrec]), ?_⟩
    have hG2 : ∀ w', Below B W2 w' → G w' := fun w' hb => hGk w' (hw1.below.trans hb)
    have hw3 := hw1.self.record hG2 (.loop { rec .ready none with state := .busy }) hlk2 rfl hBl hlA2
    obtain ⟨W3, hW3⟩ : ∃ W3, W2.putObj l (.loop { rec .ready none with state := .busy }) = W3 := ⟨_, rfl⟩
    have hoth3 : ∀ k, k ≠ l → W3.heap[k]? = W2.heap[k]? := fun k hk => by rw [← hW3]; exact World.putObj_heap_other hk
    have hsz3 : W3.heap.size = W2.heap.size := by rw [← hW3]; exact World.putObj_size
    have hb23 : Below B W2 W3 := by rw [← hW3]; exact ⟨rfl, rfl, rfl, by rw [World.putObj_size]; exact Nat.le_refl _, fun k hk => World.putObj_heap_other (by omega)⟩
    have hlk3 : W3.heap[l]? = some (.loop { rec .ready none with state := .busy }) := by rw [← hW3]; exact World.putObj_heap_same (Array.getElem?_eq_some_iff.1 hlk2).1
    rw [hW3] at hw3 ⊢
    have hG3 : ∀ w', Below B W3 w' → G w' := fun w' hb => hG2 w' (hb23.trans hb)
    cases hr2 : run body s1 with
    | none => rw [hr2] at hev; cases hev
    | some r2 =>
    obtain ⟨e2, s2⟩ := r2
    rw [hr2] at hev
    refine hrun (some l) _ A2 W3 hG3 hw3.av.old hw3.base body s1 e2 s2 S1 pl1 [] a1 W3 _ hr2 (by rw [hb1]; exact hl1') ht1 ⟨rfl, _, hlk3⟩ hw3 fun hb2 hl2 a2 S2 pl2 W4 ds2 hE2 hw4 ht2 hD2 hs2 => ?_
    have hlk4 := hs2.keep.same _ _ hlk3 rfl
    have hb1' : s1.base = sk.H.length := hb1
    rw [hb1'] at hE2 hl2
    have hE12 : Ext B S' sk.H pl' S2 s2.H pl2 := (hE1.trans hE2).full
    have hts : TRel ds S2 s2.H pl2 sk.tmps a := htk.mono hE12
    have fin : ∀ (jump : Option Code), ∃ W5, (Instr.endRound l jump).run P W4 = .ok (.bool jump.isNone) W5 ∧ W5.heap[l]? = some (.loop (rec (if jump.isNone then .ready else .done) jump)) ∧ WRel A2 G B W5 S2 s2.H pl2 W5 ∧ WRel A G B w0 S2 s2.H pl2 W5 ∧ Stp A w W5 ∧ DX rd w W5 ∧
        ∀ b, (n0 ≤ b ∧ b < n0 + m) ∨ (p ≤ b ∧ b < W.heap.size) → W5.heap[b]? = W.heap[b]? := fun jump => by
      obtain ⟨W5, hW5⟩ : ∃ W5, W4.putObj l (.loop (rec (if jump.isNone then .ready else .done) jump)) = W5 := ⟨_, rfl⟩
      have hoth5 : ∀ k, k ≠ l → W5.heap[k]? = W4.heap[k]? := fun k hk => by rw [← hW5]; exact World.putObj_heap_other hk
      have hsz5 : W5.heap.size = W4.heap.size := by rw [← hW5]; exact World.putObj_size
      have hG4 : ∀ w', Below B W4 w' → G w' := fun w' hb => hG3 w' (hw4.below.trans hb)
      have hw5 := hw4.self.record hG4 (.loop (rec (if jump.isNone then .ready else .done) jump)) hlk4 rfl hBl hlA2
      rw [hW5] at hw5
      have hb45 : Below B W4 W5 := by rw [← hW5]; exact ⟨rfl, rfl, rfl, by rw [World.putObj_size]; exact Nat.le_refl _, fun k hk => World.putObj_heap_other (by omega)⟩
      have hbW : Below B W W5 := hw1.below.trans (hb23.trans (hw4.below.trans hb45))
      have hsame : ∀ k o, k ≠ l → W.heap[k]? = some o → o.isCells = false → W5.heap[k]? = some o := fun k o hk ho hc =>
        (hoth5 k hk).trans (hs2.keep.same k o ((hoth3 k hk).trans (hs1.keep.same k o ho hc)) hc)
      have hA25 : ∀ b, A2 b → W5.heap[b]? = W.heap[b]? := fun b hb => by
        have hbl : b ≠ l := fun q => hlA2 (q ▸ hb)
        exact (hoth5 b hbl).trans ((hs2.kp b hb).trans ((hoth3 b hbl).trans (hs1.kp b hb)))
      have hAA : ∀ b, A b → A2 b := fun b hb => by rw [hA2]; exact .inl hb
      have hsz : W.heap.size ≤ W5.heap.size := hbW.size
      refine ⟨W5, ?_, by rw [← hW5]; exact World.putObj_heap_same (Array.getElem?_eq_some_iff.1 hlk4).1, hw5, ?_, ?_, ?_, fun b h1 => hA25 b (by rw [hA2]; exact .inr h1)⟩
      · rw [← hW5]
        have := run_endRound (P := P) jump hlk4
        rw [hrec] at this ⊢
        exact this
      · refine hw5.conv hAA (hwk.below.trans hbW) ⟨Nat.le_trans hwk.keep.size hsz, fun k o hk ho => ?_⟩ fun b hb => (hA25 b (hAA b hb)).trans (hwk.kp b hb)
        have h3 := (Array.getElem?_eq_some_iff.1 hk).1
        exact hsame k o (by omega) (hwk.keep.same k o hk ho) ho
      · refine ⟨⟨Nat.le_trans hsk.keep.size hsz, fun k o hk ho => ?_⟩, fun b hb => (hA25 b (hAA b hb)).trans (hsk.kp b hb)⟩
        have h3 := (Array.getElem?_eq_some_iff.1 hk).1
        exact hsame k o (by omega) (hsk.keep.same k o hk ho) ho
      · cases rd with
        | none => have := hlD rfl; exact hsame _ _ (by omega) hxk rfl
        | some _ => trivial
    have clo : ∀ W5, WRel A2 G B W5 S2 s2.H pl2 W5 → WRel A G B w0 S2 s2.H pl2 W5 → ExtN s.base B S s.H pl S2 (clean sk.H.length ⟨sk.tmps, s2.H, sk.base⟩).H pl2 ∧ TRel ds S2 (clean sk.H.length ⟨sk.tmps, s2.H, sk.base⟩).H pl2 (clean sk.H.length ⟨sk.tmps, s2.H, sk.base⟩).tmps a ∧
        WRel A G B w0 S2 (clean sk.H.length ⟨sk.tmps, s2.H, sk.base⟩).H pl2 W5 ∧ (clean sk.H.length ⟨sk.tmps, s2.H, sk.base⟩).base = s.base ∧ s.base ≤ (clean sk.H.length ⟨sk.tmps, s2.H, sk.base⟩).H.length ∧ Away n0 m S2 (clean sk.H.length ⟨sk.tmps, s2.H, sk.base⟩).H pl2 := fun W5 h5 h6 => by
      have hl2' : sk.H.length ≤ s2.H.length := hl2
      have hE' : ExtN sk.base B S s.H pl S2 s2.H pl2 := by rw [hskb]; exact hEk.trans (hE12.toN hskl)
      obtain ⟨c1, c2, c3, c4, c5⟩ := clean_sound (n := sk.H.length) (s := ⟨sk.tmps, s2.H, sk.base⟩) (show sk.base ≤ sk.H.length by rw [hskb]; exact hskl) (show sk.base ≤ s2.H.length by rw [hskb]; omega) hE' hts h6
      obtain ⟨_, _, d3, _, _⟩ := clean_sound (n := sk.H.length) (s := ⟨sk.tmps, s2.H, sk.base⟩) (show sk.base ≤ sk.H.length by rw [hskb]; exact hskl) (show sk.base ≤ s2.H.length by rw [hskb]; omega) hE' hts h5
      refine ⟨by rw [← hskb]; exact c1, c2, c3, c4.trans hskb, by rw [← hskb]; exact c5, fun k b lv => ?_, fun a u ea => ?_⟩
      · have := d3.av.liv k b lv
        rw [hA2] at this
        by_cases hb : b < n0
        · exact .inl hb
        · exact .inr (Nat.le_of_not_lt fun q => this (.inr (.inl ⟨Nat.le_of_not_lt hb, q⟩)))
      · have := d3.av.sto a u ea
        rw [hA2] at this
        by_cases hb : a.block < n0
        · exact .inl hb
        · exact .inr (Nat.le_of_not_lt fun q => this (.inr (.inl ⟨Nat.le_of_not_lt hb, q⟩)))
    cases e2 with
    | norm =>
      obtain ⟨W5, r1, r2, r3, r4, r5, r6, r7⟩ := fin none
      obtain ⟨c1, c2, c3, c4, c5, c6⟩ := clo W5 r3 r4
      refine ⟨_, _, r1, r7, .inl ⟨rfl, ?_⟩⟩
      rw [hJP]
      exact ⟨_, S2, pl2, hev, c4, c5, c1, fun a u ea => hE12.S a u (hSk a u ea), c3, c2, c6, r5, r2, r6⟩
    | ret =>
      obtain ⟨W5, r1, r2, r3, r4, r5, r6, r7⟩ := fin (some .ret)
      obtain ⟨c1, c2, c3, c4, c5, c6⟩ := clo W5 r3 r4
      simp only [Option.some.injEq, Prod.mk.injEq] at hev
      obtain ⟨rfl, rfl⟩ := hev
      refine ⟨_, _, r1, r7, .inr ⟨rfl, ?_⟩⟩
      rw [hJX]
      exact ⟨.ret, S2, pl2, .inl ⟨rfl, rfl⟩, c4, c5, c1, c3, c2, c6, r5, r2, r6⟩
    | exit id =>
      obtain ⟨W5, r1, r2, r3, r4, r5, r6, r7⟩ := fin (some (.exit id))
      obtain ⟨c1, c2, c3, c4, c5, c6⟩ := clo W5 r3 r4
      simp only [Option.some.injEq, Prod.mk.injEq] at hev
      obtain ⟨rfl, rfl⟩ := hev
      refine ⟨_, _, r1, r7, .inr ⟨rfl, ?_⟩⟩
      rw [hJX]
      exact ⟨.exit id, S2, pl2, .inr ⟨id, rfl, rfl⟩, c4, c5, c1, c3, c2, c6, r5, r2, r6⟩
  · -- behind it
    rw [hn0]
    rintro e0 W' ⟨⟨v, rfl⟩, (⟨W1, hj, hs⟩ | ⟨k, W1, hk, hj, hs⟩)⟩
    · rw [hJP] at hj
      obtain ⟨sk, S', pl', h1, h2, h3, h4, h5, h6, h7, h8, h9, h10, h11⟩ := hj
      rw [List.drop_eq_nil_of_le (Nat.le_refl _)] at h1
      simp only [evRows, Option.some.injEq, Prod.mk.injEq] at h1
      obtain ⟨rfl, rfl⟩ := h1
      have hl' := hlowO _ _ _ _ hs hln h10
      have hs' := hStep _ _ h9 hs
      have hX' := hDX _ _ hs h11
      have hw' := h6.foreign hG (by omega) (by omega) hA0 h8 hs
      obtain ⟨o4, hend⟩ : ∃ o4, (Instr.endLoop l).run P W' = .ok none (W'.putObj l o4) := ⟨_, (run_endLoop (P := P) hl' (by rw [hrec]; simp)).trans (by rw [show (rec .ready none).pending = none by rw [hrec]])⟩
      refine ⟨none, _, hend, ?_⟩
      have hw4 := hw'.other hG o4 hl' rfl hBl (.inr (by omega)) hlA
      have hs4 : Stp A w (W'.putObj l o4) := ⟨⟨by rw [World.putObj_size]; exact hs'.keep.size, fun k o hk ho => (World.putObj_heap_other (fun q => by have := (Array.getElem?_eq_some_iff.1 hk).1; omega)).trans (hs'.keep.same k o hk ho)⟩, fun b hb => (World.putObj_heap_other (fun q => hlA (by rw [← q]; exact hb))).trans (hs'.kp b hb)⟩
      exact hp h2 h3 _ S' pl' _ (mark ++ ds) h4 hw4 ⟨by show mark ++ a.defers = _; rw [h7.1], h7.2.1, h7.2.2⟩ (hDm _ (hDk _ hs4) (hXl _ _ (fun k hk => World.putObj_heap_other hk) hX')) hs4
    · rw [hJX] at hj
      obtain ⟨c, S', pl', h1, h2, h3, h4, h6, h7, h8, h9, h10, h11⟩ := hj
      have hl' := hlowO _ _ _ _ hs hln h10
      have hs' := hStep _ _ h9 hs
      have hX' := hDX _ _ hs h11
      have hw' := h6.foreign hG (by omega) (by omega) hA0 h8 hs
      obtain ⟨o4, hend⟩ : ∃ o4, (Instr.endLoop l).run P W' = .ok (some c) (W'.putObj l o4) := ⟨_, (run_endLoop (P := P) hl' (by rw [hrec]; simp)).trans (by rw [show (rec .done (some c)).pending = some c by rw [hrec]])⟩
      refine ⟨some c, _, hend, ?_⟩
      have hw4 := hw'.other hG o4 hl' rfl hBl (.inr (by omega)) hlA
      have hs4 : Stp A w (W'.putObj l o4) := ⟨⟨by rw [World.putObj_size]; exact hs'.keep.size, fun k o hk ho => (World.putObj_heap_other (fun q => by have := (Array.getElem?_eq_some_iff.1 hk).1; omega)).trans (hs'.keep.same k o hk ho)⟩, fun b hb => (World.putObj_heap_other (fun q => hlA (by rw [← q]; exact hb))).trans (hs'.kp b hb)⟩
      have fin := hp h2 h3 { a with defers := mark ++ a.defers } S' pl' _ (mark ++ ds) h4 hw4 ⟨by show mark ++ a.defers = _; rw [h7.1], h7.2.1, h7.2.2⟩ (hDm _ (hDk _ hs4) (hXl _ _ (fun k hk => World.putObj_heap_other hk) hX')) hs4
      rcases h1 with ⟨rfl, rfl⟩ | ⟨id, rfl, rfl⟩
      · exact wpIn_ret fin
      · exact wpIn_exit fin


theorem evCode_both (hM : P.follows .mixedOrders = true) (hK : CtxOk P C G) : ∀ n : Nat,
    RunOk P G B (evCode C P n) ∧
    (∀ (rd : Option Nat) (dp : Nat) (A : Nat → Prop) (w0 : World), (∀ w', Below B w0 w' → G w') → (∀ b, A b → b < w0.heap.size) → B ≤ w0.heap.size → ∀ (c : Code) (s : St) (e : Ex) (s' : St) (S0 S : Sto) (H0 : List Blk) (pl0 pl : Pl) (ds : List Deferred) (a : Act) (w1 w : World) (Q : Exit → Act → World → Prop),
      evCode C P n (.loop c) s = some (e, s') → s.base ≤ s.H.length → TRel ds S s.H pl s.tmps a → DRel rd w0.heap.size ds w → WRel A G B w0 S s.H pl w → ExtN s.base B S0 H0 pl0 S s.H pl → Stp A w1 w → PostN P A G rd s.base B w0 w1 S0 H0 pl0 s' (Q e.to) → Code.roundsIn (Fc rd) dp P c Q n a w) ∧
    CallOk P C G B (evFn C (evCode C P n)) := by
  intro n
  induction n with
  | zero =>
    refine ⟨fun rd dp A w0 hG hAo hB0 c s e s' S pl ds a w Q h => by simp [evCode] at h, fun rd dp A w0 hG hAo hB0 c s e s' S0 S H0 pl0 pl ds a w1 w Q h => by simp [evCode] at h, fun n args H r H' h => ?_⟩
    unfold evFn at h
    split at h
    · cases h
    · split at h
      · cases h
      · simp [evCode] at h
  | succ n ih =>
    obtain ⟨ihA, ihB, ihC⟩ := ih
    have hB : ∀ (rd : Option Nat) (dp : Nat) (A : Nat → Prop) (w0 : World), (∀ w', Below B w0 w' → G w') → (∀ b, A b → b < w0.heap.size) → B ≤ w0.heap.size → ∀ (c : Code) (s : St) (e : Ex) (s' : St) (S0 S : Sto) (H0 : List Blk) (pl0 pl : Pl) (ds : List Deferred) (a : Act) (w1 w : World) (Q : Exit → Act → World → Prop),
      evCode C P (n + 1) (.loop c) s = some (e, s') → s.base ≤ s.H.length → TRel ds S s.H pl s.tmps a → DRel rd w0.heap.size ds w → WRel A G B w0 S s.H pl w → ExtN s.base B S0 H0 pl0 S s.H pl → Stp A w1 w → PostN P A G rd s.base B w0 w1 S0 H0 pl0 s' (Q e.to) → Code.roundsIn (Fc rd) dp P c Q (n + 1) a w := by
      intro rd dp A w0 hG hAo hB0 c s e s' S0 S H0 pl0 pl ds a w1 w Q h hbs ht hD hw hE hst hp
      simp only [evCode] at h
      rw [roundsIn_succ]
      obtain ⟨hE', ht', hw', hbc, hlc⟩ := clean_sound (n := s.H.length) (s := s) hbs hbs hE ht hw
      cases hb : evCode C P n c (Av.head C.kl c s) with
      | none => rw [hb] at h; cases h
      | some r =>
        obtain ⟨e1, s1⟩ := r
        rw [hb] at h
        refine ihA rd dp A w0 hG hAo hB0 c (Av.head C.kl c s) e1 s1 S pl ds a w _ hb (show (clean s.H.length s).base ≤ (clean s.H.length s).H.length by rw [hbc]; exact hlc) (TRel.wipe _ ht') hD hw' fun hb1 hl1 a1 S1 pl1 w2 ds1 hE1 hw1 ht1 hD1 hs1 => ?_
        have hb1 : s1.base = s.base := hb1.trans hbc
        have hl1 : s.base ≤ s1.H.length := by rw [← hbc]; exact hl1
        have hE1 : ExtN s.base B S (clean s.H.length s).H pl S1 s1.H pl1 := by rw [← hbc]; exact hE1
        have hE01 := hE'.trans hE1
        cases e1 with
        | norm =>
          obtain ⟨hE2, ht2, hw2, hb2, hl2⟩ := clean_sound (n := keepN C.kl c s.H.length s1) (s := s1) (by rw [hb1]; exact keepN_le hbs hl1) (by rw [hb1]; exact hl1) (by rw [hb1]; exact hE01) ht1 hw1
          rw [hb1] at hb2 hl2 hE2
          exact ihB rd dp A w0 hG hAo hB0 c _ e s' S0 S1 H0 pl0 pl1 ds1 a1 w1 w2 Q h (by rw [hb2]; exact hl2) ht2 hD1 hw2 (by rw [hb2]; exact hE2) (hst.trans hs1) (by rw [hb2]; exact hp)
        | exit id =>
          simp only [Option.some.injEq, Prod.mk.injEq] at h
          obtain ⟨rfl, rfl⟩ := h
          obtain ⟨hE2, ht2, hw2, hb2, hl2⟩ := leave_sound (c := c) (n := s.H.length) (s := s1) (by rw [hb1]; exact hbs) (by rw [hb1]; exact hl1) (by rw [hb1]; exact hE01) ht1 hw1
          rw [hb1] at hb2 hl2 hE2
          exact hp hb2 hl2 a1 S1 pl1 w2 ds1 hE2 hw2 ht2 hD1 (hst.trans hs1)
        | ret =>
          simp only [Option.some.injEq, Prod.mk.injEq] at h
          obtain ⟨rfl, rfl⟩ := h
          obtain ⟨hE2, ht2, hw2, hb2, hl2⟩ := leave_sound (c := c) (n := s.H.length) (s := s1) (by rw [hb1]; exact hbs) (by rw [hb1]; exact hl1) (by rw [hb1]; exact hE01) ht1 hw1
          rw [hb1] at hb2 hl2 hE2
          exact hp hb2 hl2 a1 S1 pl1 w2 ds1 hE2 hw2 ht2 hD1 (hst.trans hs1)
    have hA : RunOk P G B (evCode C P (n + 1)) := by
      intro rd dp A w0 hG hAo hB0 c s e s' S pl ds a w Q h hbs ht hD hw hp
      have hG' : ∀ w', Below B w w' → G w' := fun w' hb => hG w' (hw.below.trans hb)
      cases c with
      | skip =>
        simp only [evCode, Option.some.injEq, Prod.mk.injEq] at h
        obtain ⟨rfl, rfl⟩ := h
        exact wpIn_skip (hp rfl hbs a S pl w ds (ExtN.refl hbs) hw ht hD (Stp.refl _ _))
      | label l =>
        simp only [evCode, Option.some.injEq, Prod.mk.injEq] at h
        obtain ⟨rfl, rfl⟩ := h
        exact wpIn_label (hp rfl hbs a S pl w ds (ExtN.refl hbs) hw ht hD (Stp.refl _ _))
      | region id ops d =>
        cases d with
        | true =>
          simp only [evCode] at h
          obtain ⟨S0, hE0, hw0, ht0⟩ := fzS_sound (C := C) ops ht hw
          cases hb : evDraw C P (evFn C (evCode C P n)) ops (fzS C ops s) with
          | none => rw [hb] at h; cases h
          | some s1 =>
            rw [hb] at h
            simp only [Option.some.injEq, Prod.mk.injEq] at h
            obtain ⟨rfl, rfl⟩ := h
            exact evDraw_sound hM hG' hK ihC hb ht0 hw0.self fun a2 S2 pl2 w2 hE2 hw2 ht2 => hp ((evDraw_base hb).trans (fzS_base _ _)) (Nat.le_trans hbs (hE0.trans hE2).len) a2 S2 pl2 w2 ds ((hE0.trans hE2).toN hbs) (hw0.rebase hw2) ht2 (hD.keep hw2.keep) hw2.stp
        | false =>
          simp only [evCode] at h
          obtain ⟨S0, hE0, hw0, ht0⟩ := fzS_sound (C := C) ops ht hw
          cases hb : evOps C P (evFn C (evCode C P n)) ops ops.toList (fzS C ops s) with
          | none => rw [hb] at h; cases h
          | some s1 =>
            rw [hb] at h
            simp only [Option.some.injEq, Prod.mk.injEq] at h
            obtain ⟨rfl, rfl⟩ := h
            exact wpIn_region_list (evOps_sound hG' hK ihC _ (fzS C ops s) s1 S0 pl a w hb ht0 hw0.self fun a2 S2 pl2 w2 hE2 hw2 ht2 => hp ((evOps_base _ _ _ hb).trans (fzS_base _ _)) (Nat.le_trans hbs (hE0.trans hE2).len) a2 S2 pl2 w2 ds ((hE0.trans hE2).toN hbs) (hw0.rebase hw2) ht2 (hD.keep hw2.keep) hw2.stp)
      | seq x y =>
        simp only [evCode] at h
        cases hb : evCode C P n x s with
        | none => rw [hb] at h; cases h
        | some r =>
          obtain ⟨e1, s1⟩ := r
          rw [hb] at h
          refine wpIn_seq (ihA rd dp A w0 hG hAo hB0 x s e1 s1 S pl ds a w _ hb hbs ht hD hw fun hb1 hl1 a1 S1 pl1 w1 ds1 hE1 hw1 ht1 hD1 hs1 => ?_)
          cases e1 with
          | norm => exact ihA rd dp A w0 hG hAo hB0 y s1 e s' S1 pl1 ds1 a1 w1 Q h (by rw [hb1]; exact hl1) ht1 hD1 hw1 (by rw [hb1]; exact fun hb2 hl2 a2 S2 pl2 w2 ds2 hE2 hw2 ht2 hD2 hs2 => hp hb2 hl2 a2 S2 pl2 w2 ds2 (hE1.trans hE2) hw2 ht2 hD2 (hs1.trans hs2))
          | exit id =>
            simp only [Option.some.injEq, Prod.mk.injEq] at h
            obtain ⟨rfl, rfl⟩ := h
            exact hp hb1 hl1 a1 S1 pl1 w1 ds1 hE1 hw1 ht1 hD1 hs1
          | ret =>
            simp only [Option.some.injEq, Prod.mk.injEq] at h
            obtain ⟨rfl, rfl⟩ := h
            exact hp hb1 hl1 a1 S1 pl1 w1 ds1 hE1 hw1 ht1 hD1 hs1
      | cond c x y =>
        simp only [evCode] at h
        split at h
        · rename_i t hc
          have hv := ht.ev c
          rw [hc] at hv
          refine wpIn_cond hv.v_inv ?_
          cases t with
          | true => exact ihA rd dp A w0 hG hAo hB0 x s e s' S pl ds a w Q h hbs ht hD hw hp
          | false => exact ihA rd dp A w0 hG hAo hB0 y s e s' S pl ds a w Q h hbs ht hD hw hp
        · cases h
      | block id c =>
        simp only [evCode] at h
        cases hb : evCode C P n c s with
        | none => rw [hb] at h; cases h
        | some r =>
          obtain ⟨e1, s1⟩ := r
          rw [hb] at h
          refine wpIn_block (ihA rd dp A w0 hG hAo hB0 c s e1 s1 S pl ds a w _ hb hbs ht hD hw fun hb1 hl1 a1 S1 pl1 w1 ds1 hE1 hw1 ht1 hD1 hs1 => ?_)
          cases e1 with
          | norm =>
            simp only [Option.some.injEq, Prod.mk.injEq] at h
            obtain ⟨rfl, rfl⟩ := h
            exact hp hb1 hl1 a1 S1 pl1 w1 ds1 hE1 hw1 ht1 hD1 hs1
          | exit i =>
            simp only at h
            show Exit.inBlock id Q (.exit i) a1 w1
            unfold Exit.inBlock
            split at h
            · rename_i hi
              simp only [Option.some.injEq, Prod.mk.injEq] at h
              obtain ⟨rfl, rfl⟩ := h
              simp only [hi, if_true]
              exact hp hb1 hl1 a1 S1 pl1 w1 ds1 hE1 hw1 ht1 hD1 hs1
            · rename_i hi
              simp only [Option.some.injEq, Prod.mk.injEq] at h
              obtain ⟨rfl, rfl⟩ := h
              simp only [hi, if_false]
              exact hp hb1 hl1 a1 S1 pl1 w1 ds1 hE1 hw1 ht1 hD1 hs1
          | ret =>
            simp only [Option.some.injEq, Prod.mk.injEq] at h
            obtain ⟨rfl, rfl⟩ := h
            exact hp hb1 hl1 a1 S1 pl1 w1 ds1 hE1 hw1 ht1 hD1 hs1
      | loop c => exact wpIn_loop_rounds (n + 1) (hB rd dp A w0 hG hAo hB0 c s e s' S S s.H pl pl ds a w w Q h hbs ht hD hw (ExtN.refl hbs) (Stp.refl _ _) hp)
      | exit id =>
        simp only [evCode, Option.some.injEq, Prod.mk.injEq] at h
        obtain ⟨rfl, rfl⟩ := h
        exact wpIn_exit (hp rfl hbs a S pl w ds (ExtN.refl hbs) hw ht hD (Stp.refl _ _))
      | ret =>
        simp only [evCode, Option.some.injEq, Prod.mk.injEq] at h
        obtain ⟨rfl, rfl⟩ := h
        exact wpIn_ret (hp rfl hbs a S pl w ds (ExtN.refl hbs) hw ht hD (Stp.refl _ _))
      | scope c =>
        simp only [evCode] at h
        refine wpIn_scope' (ihA rd dp A w0 hG hAo hB0 c s e s' S pl ds a w _ h hbs ht hD hw fun hb1 hl1 a1 S1 pl1 w1 ds1 hE1 hw1 ht1 hD1 hs1 => ?_)
        have := hp hb1 hl1 a1 S1 pl1 w1 ds1 hE1 hw1 ht1 hD1 hs1
        cases e <;> exact this
      | rangeFunc f ps asg bd => 
        simp only [evCode] at h
        cases hr : rowsA C (evA s.tmps f) ps.size with
        | none => rw [hr] at h; cases h
        | some rows =>
          rw [hr] at h
          exact range_sound hK ihA hG hr h hbs ht hD hw hAo hB0 hp
      | goto l => simp [evCode] at h
      | refuse y => simp [evCode] at h
    refine ⟨hA, hB, fun m args H r H' h => ?_⟩
    unfold evFn at h
    cases hfn : C.fn m with
    | none => rw [hfn] at h; cases h
    | some fn =>
      rw [hfn] at h
      refine ⟨⟨fn, rfl⟩, fun A S pl w vs hvs hw hG => ?_⟩
      obtain ⟨hf, hb, _⟩ := hK.fn m fn hfn
      cases hbd : fn.body with
      | none => rw [hbd] at hb; cases hb
      | some c =>
        simp only [hbd] at h
        refine (callsIn_wide (n := 0)).1 (callsIn_of_wp_marks hf hbd trivial ?_ rfl)
        have hT : TRel [] S H pl (args ++ List.replicate (fn.ntmps - args.length) .any) { tmps := vs.toArray ++ Array.replicate (fn.ntmps - vs.toArray.size) undef, defers := [] } := by
          refine ⟨rfl, by simp [hvs.1], fun i x u hx hu => ?_⟩
          by_cases hi : i < args.length
          · rw [List.getElem?_append_left hi] at hx
            rw [Array.getElem?_append_left (by simpa [hvs.1] using hi)] at hu
            exact hvs.2 i x u hx (by simpa using hu)
          · rw [List.getElem?_append_right (by omega), List.getElem?_replicate] at hx
            split at hx
            · obtain rfl := Option.some.inj hx
              exact .val _ _ (.any _)
            · cases hx
        cases hr : evCode C P (n + 1) c ⟨args ++ List.replicate (fn.ntmps - args.length) .any, H, H.length⟩ with
        | none => rw [hr] at h; cases h
        | some q =>
          obtain ⟨e, s⟩ := q
          rw [hr] at h
          refine hA none 0 A w hG hw.av.old hw.base c ⟨_, H, H.length⟩ e s S pl [] _ w _ hr (Nat.le_refl _) hT ⟨[], rfl, List.Pairwise.nil, fun D hD => by cases hD⟩ hw fun _ _ a1 S1 pl1 w1 ds1 hE1 hw1 ht1 hD1 _ => ?_
          have hE1 := hE1.full
          have key : (match resA C s.tmps s.H fn.results.toList with | some [x] => some (x, s.H) | some xs => some (.tup xs, s.H) | none => none) = some (r, H') →
              LeavesInM Fence.wide 0 P fn a1.tmps (fun e w' => ∃ u S' pl', e = .returned u ∧ Ext B S H pl S' H' pl' ∧ WRel A G B w S' H' pl' w' ∧ Rep S' H' pl' r u) a1.defers .returning w1 := by
            intro hq
            cases hres : resA C s.tmps s.H fn.results.toList with
            | none => rw [hres] at hq; cases hq
            | some xs =>
              rw [hres] at hq
              have hone : resOne xs = r ∧ s.H = H' := by
                match xs, hq with
                | [], hq => simp only [Option.some.injEq, Prod.mk.injEq] at hq; exact hq
                | [x], hq => simp only [Option.some.injEq, Prod.mk.injEq] at hq; exact hq
                | x :: y :: t, hq => simp only [Option.some.injEq, Prod.mk.injEq] at hq; exact hq
              obtain ⟨rfl, rfl⟩ := hone
              rw [ht1.1]
              obtain ⟨Ds, rfl, hpw, hDs⟩ := hD1
              exact leaves_marks hG hK hw.av.old Ds w1 hpw hDs hw1 hw.base ht1 hres hE1
          cases e with
          | norm => exact key h
          | ret => exact key h
          | exit id => cases h

/-- A function by the interpreter is a summary of it. -/
theorem models_of (hM : P.follows .mixedOrders = true) (hK : CtxOk P C G) (hG : ∀ w w', G w → Below w.heap.size w w' → G w') (n f : Nat) : Models P G f fun args => evFn C (evCode C P n) f args [] := by
  intro S w as vs r Hr hvs himm hg e
  have hw : WRel noA G w.heap.size w S [] (fun _ => none) w := by
    refine ⟨⟨fun k cs e => by simp at e, fun k e sz ver bv es q => by simp at q, fun k k' b l => by obtain ⟨⟨x, hx, _⟩, _⟩ := l; simp at hx, fun a u e k l => by obtain ⟨⟨x, hx, _⟩, _⟩ := l; simp at hx⟩, himm, Below.refl _ _, Nat.le_refl _, hg, KeepsOthers.refl _, Avd.none _ _ _ _, fun _ _ => rfl⟩
  obtain ⟨_, hc⟩ := (evCode_both (B := w.heap.size) hM hK n).2.2 f as [] r Hr e
  refine (hc noA S _ w vs (hvs.mono fun x u h => .val _ _ h) hw (fun w' hb => hG w w' hg hb)).mono ?_
  rintro e w' ⟨u, S', pl', rfl, hE, hW, hR⟩
  exact ⟨u, S', pl', rfl, hE.S, fun a v hv hb => (hE.new a v hv).elim id fun hb' => absurd hb (Nat.not_lt.2 hb'), hW, hR⟩

theorem info_of {t : TypeId} {z : Option Value} {s b : Nat} (h : (P.info? t).map (fun i => (i.zero, i.size, i.bytes)) = some (z, s, b)) : ∃ i, P.info? t = some i ∧ i.zero = z ∧ i.size = s ∧ i.bytes = b := by
  cases hi : P.info? t with
  | none => simp [hi] at h
  | some i => simp [hi] at h; exact ⟨i, rfl, h.1, h.2.1, h.2.2⟩
/-- One row of the table of types. -/
def TdT (P : Program) (t : Nat) : TD → Prop
  | .one z => (∃ d, P.underlying t = some d ∧ d.isRow = false ∧ oneKind z d) ∧ ∃ i, P.info? t = some i ∧ i.size = 1 ∧ i.zero = some z ∧ z.oneCell' = true ∧ z.cells = #[z]
  | .agg sz fs zs => ∃ flds i, P.underlying t = some (.struct flds) ∧ P.info? t = some i ∧ i.size = sz ∧ i.zero = some (.agg zs.toArray) ∧ zs.length = sz ∧ 0 < sz ∧ (∀ z ∈ zs, z.oneCell' = true) ∧
    flds.toList.length = fs.length ∧ ∀ (j : Nat) f o s (g : Bool), flds[j]? = some f → fs[j]? = some (o, s, g) → f.offset = o ∧ 0 < s ∧ o + s ≤ sz ∧ (∃ i', P.info? f.type = some i' ∧ i'.size = s) ∧
      ∃ d, P.underlying f.type = some d ∧ d.isRow = g ∧ (g = false → s = 1)
  | .sl e sz bytes => P.underlying t = some (.slice e) ∧ 0 < sz ∧ (∃ i z, P.info? e = some i ∧ i.size = sz ∧ i.bytes = bytes ∧ i.zero = some z ∧ z.cells.size = sz) ∧ ∃ i, P.info? t = some i ∧ i.size = 1 ∧ i.zero = some (.slice none 0 0)
  | .no => True
theorem TdOk.of {C : Ctx} (h : ∀ t, TdT P t (C.td t)) (hc : ∀ t, C.conc t = true → ∃ d, P.underlying t = some d ∧ (match d with | .interface _ => false | _ => true) = true) : TdOk P C :=
  ⟨fun t z e => by have := h t; rw [e] at this; exact this, fun t sz fs zs e => by have := h t; rw [e] at this; exact this, fun t e' sz b e => by have := h t; rw [e] at this; exact this, hc⟩
end
end Go.Proofs.Ytkifbcjmmkbilaa.Av
