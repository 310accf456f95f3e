/- What the interpreter answers of code and functions, the program answers. -/
import Derived.Test.YtnoaglgjhgnnfaaAvD
set_option linter.unusedVariables false
set_option linter.unusedSimpArgs false
namespace Go.Proofs.Ytnoaglgjhgnnfaa.Av
open Go Go.RowKit
variable {P : Program}
section
variable {S : Sto} {H : List Blk} {pl : Pl} {G : World → Prop} {B : Nat} {w0 w : World} {C : Ctx}

mutual
theorem take_rep {n : Nat} (hn : n ≤ H.length) : (x : AV) → ∀ {u : Value}, AV.hb n x = true → Rep S H pl x u → Rep S (H.take n) pl x u
  | .any, u, _, r => .val _ _ (.any u)
  | .v x, u, _, r => by rw [r.v_inv]; exact .val _ _ (.v x)
  | .lst _ _ _ _, u, _, r => by cases r; exact .val _ _ (by assumption)
  | .z _ _, u, _, r => by cases r; exact .val _ _ (by assumption)
  | .ept _, u, _, r => by cases r; exact .val _ _ (by assumption)
  | .own id ver, u, h, r => by
    have hid : id < n := by simpa [AV.hb] using h
    cases r with
    | val _ _ r => cases r
    | own _ _ _ hi h1 k => exact .own _ _ _ (by simp; omega) h1 fun e sz v bv es q => k e sz v bv es (by rwa [List.getElem?_take, if_pos hid] at q)
  | .gpt id ver i off, u, h, r => by
    have hid : id < n := by simpa [AV.hb] using h
    cases r with
    | val _ _ r => cases r
    | gpt _ _ _ _ _ hi h1 k => exact .gpt _ _ _ _ _ (by simp; omega) h1 fun e sz v bv es q => k e sz v bv es (by rwa [List.getElem?_take, if_pos hid] at q)
  | .ptr id off, u, h, r => by
    have hid : id < n := by simpa [AV.hb] using h
    cases r with
    | val _ _ r => cases r
    | ptr _ _ _ hi h1 k => exact .ptr _ _ _ (by simp; omega) h1 fun cs q => k cs (by rwa [List.getElem?_take, if_pos hid] at q)
  | .agg cs, u, h, r => by
    obtain ⟨us, rfl, k⟩ := r.agg_inv
    have := takes_rep hn cs (by simpa [AV.hb] using h) k
    exact .agg cs us this.1 this.2
  | .tup cs, u, h, r => by
    obtain ⟨us, rfl, k⟩ := r.tup_inv
    have := takes_rep hn cs (by simpa [AV.hb] using h) k
    exact .tup cs us this.1 this.2
  | .fn f cs, u, h, r => by
    obtain ⟨us, rfl, k⟩ := r.fn_inv
    have := takes_rep hn cs (by simpa [AV.hb] using h) k
    exact .fn f cs us this.1 this.2
  | .ifc t x, u, h, r => by
    obtain ⟨v, rfl, k⟩ := r.ifc_inv
    exact .ifc t x v (take_rep hn x (by simpa [AV.hb] using h) k)
theorem takes_rep {n : Nat} (hn : n ≤ H.length) : (cs : List AV) → ∀ {us : List Value}, AV.hbs n cs = true → Cs (Rep S H pl) cs us → Cs (Rep S (H.take n) pl) cs us
  | [], us, _, k => by rw [k.nil_inv]; exact Cs.nil
  | x :: cs, us, h, k => by
    obtain ⟨u, us', rfl, hx, kc⟩ := k.tail
    simp [AV.hbs] at h
    exact Cs.cons (take_rep hn x h.1 hx) (takes_rep hn cs h.2 kc)
end

theorem hbs_mem {n : Nat} : ∀ {cs : List AV}, AV.hbs n cs = true → ∀ x ∈ cs, AV.hb n x = true
  | [], _, x, h => by cases h
  | y :: cs, h, x, hx => by
    simp [AV.hbs] at h
    rcases List.mem_cons.1 hx with rfl | hx
    · exact h.1
    · exact hbs_mem h.2 x hx

theorem WRel.take (h : WRel G B w0 S H pl w) {n : Nat} (hn : n ≤ H.length) (hb : (H.take n).all (Blk.hb n) = true) : WRel G B w0 S (H.take n) pl w := by
  have hget : ∀ (k : Nat) x, (H.take n)[k]? = some x → H[k]? = some x := fun k x e => by
    rw [List.getElem?_take] at e
    split at e
    · exact e
    · cases e
  have hall : ∀ (k : Nat) x, (H.take n)[k]? = some x → x.hb n = true := fun k x e => List.all_eq_true.1 hb _ (List.mem_of_getElem? e)
  have hlive : ∀ k b, live (H.take n) pl k b → live H pl k b := fun k b ⟨⟨x, hx, hl⟩, c⟩ => ⟨⟨x, hget k x hx, hl⟩, c⟩
  refine ⟨⟨fun k cs e => ?_, fun k e sz ver bv es q => ?_, fun k k' b l l' => h.h.apart k k' b (hlive k b l) (hlive k' b l'), fun a u e k l => h.h.sep a u e k (hlive k _ l)⟩, h.imm, h.below, h.base, h.g⟩
  · obtain ⟨b, c, us, t, h1, h2, h3, h4, h5⟩ := h.h.var k cs (hget k _ e)
    exact ⟨b, c, us, t, h1, h2, h3, takes_rep hn cs (by simpa [Blk.hb] using hall k _ e) h4, h5⟩
  · obtain ⟨h1, h2, h3, h4, xs, h5, h6, h7⟩ := h.h.grow k e sz ver bv es (hget k _ q)
    refine ⟨h1, h2, h3, h4, xs, h5, ⟨h6.1, fun i x u hx hu => ?_⟩, h7⟩
    obtain ⟨c, hc, hxc⟩ := List.mem_flatten.1 (List.mem_of_getElem? hx)
    have hr := h6.2 i x u hx hu
    have := hall k _ q
    simp only [Blk.hb, Bool.or_eq_true] at this
    rcases this with hbv | hes
    · exact .val _ _ (hb_val x (hbs_mem (h4 hbv c hc) x hxc) hr)
    · exact take_rep hn x (hbs_mem (List.all_eq_true.1 hes c hc) x hxc) hr

theorem renG_get (base : Nat) (H0 : List Blk) : ∀ (H : List Blk) (k j : Nat), (renG base H0 k H)[j]? = (H[j]?).map (Blk.ren base H0 (k + j))
  | [], k, j => by simp [renG]
  | b :: r, k, 0 => by simp [renG]
  | b :: r, k, j + 1 => by simp only [renG, List.getElem?_cons_succ]; rw [renG_get base H0 r (k + 1) j, show k + 1 + j = k + (j + 1) by omega]
theorem renG_length (base : Nat) (H0 : List Blk) : ∀ (H : List Blk) (k : Nat), (renG base H0 k H).length = H.length
  | [], k => rfl
  | b :: r, k => by simp [renG, renG_length base H0 r (k + 1)]
theorem renH_grow {base k : Nat} {e sz v : Nat} {bv : Bool} {es : List (List AV)} (h : (renG base H 0 H)[k]? = some (.grow e sz v bv es)) : ∃ v0 es0, H[k]? = some (.grow e sz v0 bv es0) ∧ v = (if k < base then v0 else 0) ∧ es = (if bv then es0 else es0.map (AV.rens base H)) := by
  rw [renG_get, Nat.zero_add] at h
  cases hk : H[k]? with
  | none => simp [hk] at h
  | some x =>
    cases x <;> simp [hk, Blk.ren] at h
    obtain ⟨rfl, rfl, rfl, rfl, rfl⟩ := h
    exact ⟨_, _, rfl, rfl, rfl⟩
theorem ren_len {bv : Bool} {base : Nat} {es : List (List AV)} : (if bv = true then es else es.map (AV.rens base H)).length = es.length := by cases bv <;> simp

mutual
theorem ren_rep {base : Nat} : (x : AV) → ∀ {u : Value}, Rep S H pl x u → Rep S (renG base H 0 H) pl (x.ren base H) u
  | .any, u, r => .val _ _ (.any u)
  | .v x, u, r => by rw [r.v_inv]; exact .val _ _ (.v x)
  | .lst _ _ _ _, u, r => by cases r; exact .val _ _ (by assumption)
  | .z _ _, u, r => by cases r; exact .val _ _ (by assumption)
  | .ept _, u, r => by cases r; exact .val _ _ (by assumption)
  | .own id ver, u, r => by
    cases r with
    | val _ _ r => cases r
    | own _ _ _ hi h1 k =>
      simp only [AV.ren]
      split
      · rename_i hb
        refine .own _ _ _ (by rw [renG_length]; exact hi) h1 fun e sz v bv es q => ?_
        obtain ⟨v0, es0, hq, rfl, rfl⟩ := renH_grow q
        rw [if_pos hb, ren_len]
        exact k _ _ _ _ _ hq
      · rename_i hb
        split
        · rename_i e0 sz0 v0 bv0 es0 hH
          split
          · rename_i hv
            subst hv
            refine .own _ _ _ (by rw [renG_length]; exact hi) h1 fun e sz v bv es q => ?_
            obtain ⟨v1, es1, hq, rfl, rfl⟩ := renH_grow q
            rw [hH] at hq
            cases hq
            rw [if_neg hb, ren_len]
            exact ⟨Nat.le_refl _, fun _ => (k _ _ _ _ _ hH).2 rfl⟩
          · exact .val _ _ (.any u)
        · exact .val _ _ (.any u)
  | .gpt id ver i off, u, r => by
    cases r with
    | val _ _ r => cases r
    | gpt _ _ _ _ _ hi h1 k =>
      simp only [AV.ren]
      split
      · rename_i hb
        refine .gpt _ _ _ _ _ (by rw [renG_length]; exact hi) h1 fun e sz v bv es q => ?_
        obtain ⟨v0, es0, hq, rfl, rfl⟩ := renH_grow q
        rw [if_pos hb]
        exact k _ _ _ _ _ hq
      · rename_i hb
        split
        · rename_i e0 sz0 v0 bv0 es0 hH
          split
          · rename_i hv
            subst hv
            refine .gpt _ _ _ _ _ (by rw [renG_length]; exact hi) h1 fun e sz v bv es q => ?_
            obtain ⟨v1, es1, hq, rfl, rfl⟩ := renH_grow q
            rw [hH] at hq
            cases hq
            rw [if_neg hb]
            exact ⟨Nat.le_refl _, fun _ => (k _ _ _ _ _ hH).2 rfl⟩
          · exact .val _ _ (.any u)
        · exact .val _ _ (.any u)
  | .ptr id off, u, r => by
    cases r with
    | val _ _ r => cases r
    | ptr _ _ _ hi h1 k =>
      refine .ptr _ _ _ (by rw [renG_length]; exact hi) h1 fun cs q => ?_
      rw [renG_get, Nat.zero_add] at q
      cases hk : H[id]? with
      | none => simp [hk] at q
      | some x =>
        cases x <;> simp [hk, Blk.ren] at q
        exact k _ hk
  | .agg cs, u, r => by
    obtain ⟨us, rfl, k⟩ := r.agg_inv
    have := rens_rep (base := base) cs k
    exact .agg _ us this.1 this.2
  | .tup cs, u, r => by
    obtain ⟨us, rfl, k⟩ := r.tup_inv
    have := rens_rep (base := base) cs k
    exact .tup _ us this.1 this.2
  | .fn f cs, u, r => by
    obtain ⟨us, rfl, k⟩ := r.fn_inv
    have := rens_rep (base := base) cs k
    exact .fn f _ us this.1 this.2
  | .ifc t x, u, r => by
    obtain ⟨v, rfl, k⟩ := r.ifc_inv
    exact .ifc t _ v (ren_rep x k)
theorem rens_rep {base : Nat} : (cs : List AV) → ∀ {us : List Value}, Cs (Rep S H pl) cs us → Cs (Rep S (renG base H 0 H) pl) (AV.rens base H cs) us
  | [], us, k => by rw [k.nil_inv]; exact Cs.nil
  | x :: cs, us, k => by
    obtain ⟨u, us', rfl, hx, kc⟩ := k.tail
    exact Cs.cons (ren_rep x hx) (rens_rep cs kc)
end
theorem rens_length (base : Nat) : ∀ cs : List AV, (AV.rens base H cs).length = cs.length
  | [] => rfl
  | x :: cs => by simp [AV.rens, rens_length base cs]
theorem rens_append (base : Nat) : ∀ cs ds : List AV, AV.rens base H (cs ++ ds) = AV.rens base H cs ++ AV.rens base H ds
  | [], ds => rfl
  | x :: cs, ds => by simp [AV.rens, rens_append base cs ds]
theorem rens_flatten (base : Nat) : ∀ es : List (List AV), (es.map (AV.rens base H)).flatten = AV.rens base H es.flatten
  | [] => rfl
  | c :: es => by simp [rens_append, rens_flatten base es]

theorem WRel.ren (h : WRel G B w0 S H pl w) (base : Nat) : WRel G B w0 S (renG base H 0 H) pl w := by
  have hget : ∀ (k : Nat) x, (renG base H 0 H)[k]? = some x → ∃ y, H[k]? = some y ∧ x = y.ren base H k := fun k x e => by
    rw [renG_get, Nat.zero_add] at e
    cases hk : H[k]? with
    | none => simp [hk] at e
    | some y => simp [hk] at e; exact ⟨y, rfl, e.symm⟩
  have hlive : ∀ k b, live (renG base H 0 H) pl k b → live H pl k b := fun k b ⟨⟨x, hx, hl⟩, c⟩ => by
    obtain ⟨y, hy, rfl⟩ := hget k x hx
    exact ⟨⟨y, hy, by cases y <;> simp_all [Blk.ren, Blk.lives]⟩, c⟩
  refine ⟨⟨fun k cs e => ?_, fun k e sz ver bv es q => ?_, fun k k' b l l' => h.h.apart k k' b (hlive k b l) (hlive k' b l'), fun a u e k l => h.h.sep a u e k (hlive k _ l)⟩, h.imm, h.below, h.base, h.g⟩
  · obtain ⟨y, hy, hyx⟩ := hget k _ e
    cases y <;> simp [Blk.ren] at hyx
    subst hyx
    obtain ⟨b, c, us, t, h1, h2, h3, h4, h5⟩ := h.h.var k _ hy
    exact ⟨b, c, us, t, h1, h2, h3, rens_rep _ h4, h5⟩
  · obtain ⟨v0, es0, hq, rfl, rfl⟩ := renH_grow q
    obtain ⟨h1, h2, h3, h4, xs, h5, h6, h7⟩ := h.h.grow k _ _ _ _ _ hq
    cases bv with
    | true =>
      rw [if_pos (rfl : true = true)]
      refine ⟨h1, h2, h3, h4, xs, h5, ⟨h6.1, fun i x u hx hu => ?_⟩, h7⟩
      obtain ⟨c, hc, hxc⟩ := List.mem_flatten.1 (List.mem_of_getElem? hx)
      exact .val _ _ (hb_val x (hbs_mem (h4 rfl c hc) x hxc) (h6.2 i x u hx hu))
    | false =>
      rw [if_neg (by decide : ¬ (false = true))]
      refine ⟨h1, fun c hcm => ?_, (fun hp => by simp [h3 hp]), (fun hx => absurd hx (by decide)), xs, by simpa using h5, by rw [rens_flatten]; exact rens_rep _ h6, h7⟩
      obtain ⟨c0, hd, rfl⟩ := List.mem_map.1 hcm
      rw [rens_length]
      exact h2 c0 hd

/-- How own memory may have gone on, of the first n blocks. -/
structure ExtN (n B : Nat) (S : Sto) (H : List Blk) (pl : Pl) (S' : Sto) (H' : List Blk) (pl' : Pl) : Prop where
  new : ∀ a u, S' a = some u → S a = some u ∨ B ≤ a.block
  S : S.le S'
  len : n ≤ H'.length
  var : ∀ (k : Nat) cs', k < n → H'[k]? = some (.var cs') → ∃ cs, H[k]? = some (.var cs) ∧ pl' k = pl k
  grow : ∀ (k : Nat) e sz ver bv es', k < n → H'[k]? = some (.grow e sz ver bv es') → ∃ e0 ver0 bv0 es, H[k]? = some (.grow e0 sz ver0 bv0 es) ∧ ver0 ≤ ver ∧ (ver = ver0 → es'.length = es.length ∧ pl' k = pl k)
theorem Ext.toN {S' : Sto} {H' : List Blk} {pl' : Pl} (h : Ext B S H pl S' H' pl') {n : Nat} (hn : n ≤ H.length) : ExtN n B S H pl S' H' pl' :=
  ⟨h.new, h.S, Nat.le_trans hn h.len, fun k cs hk => h.var k cs (by omega), fun k e sz v bv es hk => h.grow k e sz v bv es (by omega)⟩
theorem ExtN.full {S' : Sto} {H' : List Blk} {pl' : Pl} (h : ExtN H.length B S H pl S' H' pl') : Ext B S H pl S' H' pl' := ⟨h.new, h.S, h.len, h.var, h.grow⟩
theorem ExtN.refl {n : Nat} (hn : n ≤ H.length) : ExtN n B S H pl S H pl := (Ext.refl S H pl).toN hn
theorem ExtN.trans {n : Nat} {S1 S2 : Sto} {H1 H2 : List Blk} {pl1 pl2 : Pl} (h : ExtN n B S H pl S1 H1 pl1) (k : ExtN n B S1 H1 pl1 S2 H2 pl2) : ExtN n B S H pl S2 H2 pl2 := by
  refine ⟨fun a u e => (k.new a u e).elim (fun e => h.new a u e) .inr, Sto.le_trans h.S k.S, k.len, fun i cs hi e => ?_, fun i e sz ver bv es hi q => ?_⟩
  · obtain ⟨cs1, e1, p1⟩ := k.var i cs hi e
    obtain ⟨cs0, e0, p0⟩ := h.var i cs1 hi e1
    exact ⟨cs0, e0, p1.trans p0⟩
  · obtain ⟨x1, v1, b1, es1, e1, g1, k1⟩ := k.grow i e sz ver bv es hi q
    obtain ⟨x0, v0, b0, es0, e0, g0, k0⟩ := h.grow i _ _ _ _ _ hi e1
    refine ⟨x0, v0, b0, es0, e0, Nat.le_trans g0 g1, fun hv => ?_⟩
    have a1 := k1 (by omega)
    have a0 := k0 (by omega)
    exact ⟨a1.1.trans a0.1, a1.2.trans a0.2⟩

theorem clean0_sound {S0 : Sto} {H0 : List Blk} {pl0 : Pl} {s : St} {a : Act} {n : Nat} (hn : s.base ≤ n) (hnl : n ≤ s.H.length) (hE : ExtN s.base B S0 H0 pl0 S s.H pl) (ht : TRel S s.H pl s.tmps a) (h : WRel G B w0 S s.H pl w) :
    ExtN s.base B S0 H0 pl0 S (clean0 n s).H pl ∧ TRel S (clean0 n s).H pl (clean0 n s).tmps a ∧ WRel G B w0 S (clean0 n s).H pl w ∧ (clean0 n s).base = s.base ∧ s.base ≤ (clean0 n s).H.length := by
  unfold clean0
  split
  · rename_i hb
    have hget : ∀ (k : Nat) x, k < s.base → (renG s.base (s.H.take n) 0 (s.H.take n))[k]? = some x → ∃ y, s.H[k]? = some y ∧ x = y.ren s.base (s.H.take n) k := fun k x hk e => by
      rw [renG_get, Nat.zero_add, List.getElem?_take, if_pos (by omega)] at e
      cases hy : s.H[k]? with
      | none => simp [hy] at e
      | some y => simp [hy] at e; exact ⟨y, rfl, e.symm⟩
    have hw := (h.take hnl hb).ren s.base
    refine ⟨⟨hE.new, hE.S, by rw [renG_length]; simp; omega, fun k cs hk e => ?_, fun k e sz ver bv es hk q => ?_⟩, ⟨ht.1, by simp [ht.2.1], fun i x u hx hu => ?_⟩, hw, rfl, by rw [renG_length]; simp; omega⟩
    · obtain ⟨y, hy, hyx⟩ := hget k _ hk e
      cases y <;> simp [Blk.ren] at hyx
      exact hE.var k _ hk hy
    · obtain ⟨y, hy, hyx⟩ := hget k _ hk q
      cases y <;> simp [Blk.ren] at hyx
      obtain ⟨rfl, rfl, rfl, rfl, rfl⟩ := hyx
      obtain ⟨e0, v0, bv0, es0, h1, h2, h3⟩ := hE.grow k _ _ _ _ _ hk hy
      refine ⟨e0, v0, bv0, es0, h1, by rw [if_pos hk]; exact h2, fun hv => ?_⟩
      rw [if_pos hk] at hv
      obtain ⟨h4, h5⟩ := h3 hv
      exact ⟨by rw [ren_len]; exact h4, h5⟩
    · simp only [List.getElem?_map] at hx
      cases hy : s.tmps[i]? with
      | none => simp [hy] at hx
      | some y =>
        simp [hy] at hx
        subst hx
        split
        · rename_i hyb
          exact ren_rep y (take_rep hnl y hyb (ht.2.2 i y u hy hu))
        · exact .val _ _ (.any u)
  · exact ⟨hE, ht, h, rfl, by omega⟩

theorem clean_sound {S0 : Sto} {H0 : List Blk} {pl0 : Pl} {s : St} {a : Act} {n : Nat} (hn : s.base ≤ n) (hl : s.base ≤ s.H.length) (hE : ExtN s.base B S0 H0 pl0 S s.H pl) (ht : TRel S s.H pl s.tmps a) (h : WRel G B w0 S s.H pl w) :
    ExtN s.base B S0 H0 pl0 S (clean n s).H pl ∧ TRel S (clean n s).H pl (clean n s).tmps a ∧ WRel G B w0 S (clean n s).H pl w ∧ (clean n s).base = s.base ∧ s.base ≤ (clean n s).H.length :=
  clean0_sound (Nat.le_min.2 ⟨hn, hl⟩) (Nat.min_le_right _ _) hE ht h

/-- What is owed behind code. -/
def PostN (P : Program) (G : World → Prop) (n B : Nat) (w0 : World) (S : Sto) (H : List Blk) (pl : Pl) (s : St) (K : Act → World → Prop) : Prop :=
  s.base = n → n ≤ s.H.length → ∀ a S' pl' w', ExtN n B S H pl S' s.H pl' → WRel G B w0 S' s.H pl' w' → TRel S' s.H pl' s.tmps a → K a w'

def Ex.to : Ex → Exit
  | .norm => .normal
  | .exit id => .exit id
  | .ret => .ret


def resM (g : Nat → Value) (r : ResultVar) : Sem Value :=
  match r with
  | .tmp t => pure (g t)
  | .cell ad t => do loadVar t (← asAddr (g ad))
theorem results_sound (hK : CtxOk P C G) {tmps : List AV} {g : Nat → Value} (ht : ∀ t, Rep S H pl (tmps.getD t .any) (g t)) (h : WRel G B w0 S H pl w) : ∀ (rs : List ResultVar) (xs : List AV), resA C tmps H rs = some xs →
    ∃ us, (rs.mapM (resM g)).run P w = .ok us w ∧ Cs (Rep S H pl) xs us
  | [], xs, e => by
    simp only [resA, Option.some.injEq] at e
    subst e
    exact ⟨[], by simp, Cs.nil⟩
  | .tmp t :: rs, xs, e => by
    simp only [resA] at e
    cases hr : resA C tmps H rs with
    | none => rw [hr] at e; cases e
    | some ys =>
      rw [hr] at e
      simp only [Option.some.injEq] at e
      subst e
      obtain ⟨us, h1, h2⟩ := results_sound hK ht h rs ys hr
      exact ⟨g t :: us, by simp [List.mapM_cons, Sem.run_bind, h1, resM], Cs.cons (ht t) h2⟩
  | .cell ad t :: rs, xs, e => by
    simp only [resA] at e
    cases hx : loadA C t (tmps.getD ad .any) H with
    | none => rw [hx] at e; cases e
    | some x =>
      cases hr : resA C tmps H rs with
      | none => rw [hx, hr] at e; cases e
      | some ys =>
        rw [hx, hr] at e
        simp only [Option.some.injEq] at e
        subst e
        obtain ⟨us, h1, h2⟩ := results_sound hK ht h rs ys hr
        obtain ⟨r, hl, hrr⟩ := load_sound hK.td h (ht ad) hx
        have hld : ∃ p, g ad = .pointer (some p) ∧ (loadVar t p).run P w = .ok r w := by
          generalize g ad = u at hl
          unfold Instr.loadAt Instr.sureAddr at hl
          split at hl
          · rename_i p
            exact ⟨p, rfl, by simpa [Sem.run_bind] using hl⟩
          · simp [Sem.run_bind, stuck, Sem.run, Result.andThen] at hl
        obtain ⟨p, hp, hlp⟩ := hld
        exact ⟨r :: us, by simp [List.mapM_cons, Sem.run_bind, h1, hp, hlp, asAddr, resM], Cs.cons hrr h2⟩

def resOne : List AV → AV
  | [x] => x
  | xs => .tup xs
theorem results_run (hK : CtxOk P C G) {fn : Func} {tmps : List AV} {a : Act} (ht : TRel S H pl tmps a) (h : WRel G B w0 S H pl w) {xs : List AV} (e : resA C tmps H fn.results.toList = some xs) :
    ∃ u, (results fn a.tmps).run P w = .ok u w ∧ Rep S H pl (resOne xs) u := by
  have hm : (results fn a.tmps) = (do let vs ← fn.results.mapM (resM fun t => a.tmps.getD t undef); pure (if h : vs.size = 1 then vs[0] else .tuple vs)) := rfl
  obtain ⟨g, hg⟩ : ∃ g : Nat → Value, g = fun t => a.tmps.getD t undef := ⟨_, rfl⟩
  rw [← hg] at hm
  obtain ⟨us, h1, h2⟩ := results_sound (g := g) hK (fun t => by rw [hg]; exact ht.ev (.tmp t)) h _ xs e
  rw [hm, Array.mapM_eq_mapM_toList]
  refine ⟨if h : us.toArray.size = 1 then us.toArray[0] else .tuple us.toArray, by simp [Sem.run_bind, h1], ?_⟩
  clear e hm h1
  match xs, h2 with
  | [], h2 =>
    obtain rfl := h2.nil_inv
    exact .tup _ [] h2.1 h2.2
  | [x], h2 =>
    obtain ⟨u, us', rfl, hx, hc⟩ := h2.tail
    obtain rfl := hc.nil_inv
    simpa [resOne] using hx
  | x :: y :: r, h2 =>
    rw [dif_neg (by simp [h2.1])]
    exact .tup _ us h2.1 h2.2

theorem evOps_base {call : Nat → List AV → List Blk → Option (AV × List Blk)} {ops : Array Oper} : ∀ (l : List Oper) (s s' : St), evOps C P call ops l s = some s' → s'.base = s.base
  | [], s, s', e => by simp only [evOps, Option.some.injEq] at e; rw [e]
  | o :: l, s, s', e => by
    simp only [evOps] at e
    split at e
    · split at e
      · exact (evOps_base l _ s' e).trans rfl
      · cases e
    · exact (evOps_base l _ s' e).trans rfl
    · cases e
theorem evDraw_base {call : Nat → List AV → List Blk → Option (AV × List Blk)} {ops : Array Oper} {s s' : St} (e : evDraw C P call ops s = some s') : s'.base = s.base := by
  unfold evDraw at e
  split at e
  · split at e
    · obtain rfl := Option.some.inj e; rfl
    · split at e
      · exact (evOps_base _ _ s' e).trans rfl
      · cases e
  · split at e
    · split at e
      · split at e
        · obtain rfl := Option.some.inj e; rfl
        · cases e
      · cases e
    · split at e
      · split at e
        · split at e
          · exact (evOps_base _ _ s' e).trans rfl
          · cases e
        · cases e
      · cases e

theorem TRel.wipe {S : Sto} {H : List Blk} {pl : Pl} {a : Act} : ∀ (ks : List Nat) {tmps : List AV}, TRel S H pl tmps a → TRel S H pl (wipeT ks tmps) a
  | [], tmps, h => h
  | k :: ks, tmps, h => TRel.wipe ks ⟨h.1, by rw [List.length_set]; exact h.2.1, fun i x u hx hu => by
      rw [List.getElem?_set] at hx
      split at hx
      · split at hx
        · obtain rfl := Option.some.inj hx
          exact .val _ _ (.any _)
        · cases hx
      · exact h.2.2 i x u hx hu⟩

theorem cut0_sound {B : Nat} {w0 w : World} {S S0 : Sto} {H0 : List Blk} {pl pl0 : Pl} {s : St} {a : Act} {n : Nat} (hn : s.base ≤ n) (hnl : n ≤ s.H.length) (hE : ExtN s.base B S0 H0 pl0 S s.H pl) (ht : TRel S s.H pl s.tmps a) (h : WRel G B w0 S s.H pl w) :
    ExtN s.base B S0 H0 pl0 S (cut0 n s).H pl ∧ TRel S (cut0 n s).H pl (cut0 n s).tmps a ∧ WRel G B w0 S (cut0 n s).H pl w ∧ (cut0 n s).base = s.base ∧ s.base ≤ (cut0 n s).H.length := by
  unfold cut0
  split
  · rename_i hb
    rw [Bool.and_eq_true] at hb
    have hget : ∀ (k : Nat), k < s.base → (s.H.take n)[k]? = s.H[k]? := fun k hk => by rw [List.getElem?_take, if_pos (by omega)]
    refine ⟨⟨hE.new, hE.S, by simp; omega, fun k cs hk e => ?_, fun k e sz ver bv es hk q => ?_⟩, ⟨ht.1, ht.2.1, fun i x u hx hu => ?_⟩, h.take hnl hb.2, rfl, by simp; omega⟩
    · rw [hget k hk] at e; exact hE.var k _ hk e
    · rw [hget k hk] at q; exact hE.grow k _ _ _ _ _ hk q
    · exact take_rep hnl x (List.all_eq_true.1 hb.1 x (List.mem_of_getElem? hx)) (ht.2.2 i x u hx hu)
  · exact ⟨hE, ht, h, rfl, by omega⟩
theorem leave_sound {B : Nat} {w0 w : World} {S S0 : Sto} {H0 : List Blk} {pl pl0 : Pl} {c : Code} {s : St} {a : Act} {n : Nat} (hn : s.base ≤ n) (hl : s.base ≤ s.H.length) (hE : ExtN s.base B S0 H0 pl0 S s.H pl) (ht : TRel S s.H pl s.tmps a) (h : WRel G B w0 S s.H pl w) :
    ExtN s.base B S0 H0 pl0 S (leave C.kl c n s).H pl ∧ TRel S (leave C.kl c n s).H pl (leave C.kl c n s).tmps a ∧ WRel G B w0 S (leave C.kl c n s).H pl w ∧ (leave C.kl c n s).base = s.base ∧ s.base ≤ (leave C.kl c n s).H.length :=
  cut0_sound (s := ⟨wipeT (killsX C.kl c) s.tmps, s.H, s.base⟩) (Nat.le_min.2 ⟨hn, hl⟩) (Nat.min_le_right _ _) hE (TRel.wipe _ ht) h

theorem evCode_both (hM : P.follows .mixedOrders = true) (hG : ∀ w', Below B w0 w' → G w') (hK : CtxOk P C G) : ∀ n : Nat,
    (∀ (c : Code) (s : St) (e : Ex) (s' : St) (S : Sto) (pl : Pl) (a : Act) (w : World) (Q : Exit → Act → World → Prop), evCode C P n c s = some (e, s') → s.base ≤ s.H.length → TRel S s.H pl s.tmps a → WRel G B w0 S s.H pl w → PostN P G s.base B w0 S s.H pl s' (Q e.to) → c.wp P Q a w) ∧
    (∀ (c : Code) (s : St) (e : Ex) (s' : St) (S0 S : Sto) (H0 : List Blk) (pl0 pl : Pl) (a : Act) (w : World) (Q : Exit → Act → World → Prop), evCode C P n (.loop c) s = some (e, s') → s.base ≤ s.H.length → TRel S s.H pl s.tmps a → WRel G B w0 S s.H pl w → ExtN s.base B S0 H0 pl0 S s.H pl → PostN P G s.base B w0 S0 H0 pl0 s' (Q e.to) → Code.rounds P c Q n a w) ∧
    CallOk P C G B w0 (evFn C (evCode C P n)) := by
  intro n
  induction n with
  | zero =>
    refine ⟨fun c s e s' S pl a w Q h => by simp [evCode] at h, fun c s e s' S0 S H0 pl0 pl a w Q h => by simp [evCode] at h, fun n args H r H' h => ?_⟩
    unfold evFn at h
    split at h
    · cases h
    · split at h
      · cases h
      · simp [evCode] at h
  | succ n ih =>
    obtain ⟨ihA, ihB, ihC⟩ := ih
    have hB : ∀ (c : Code) (s : St) (e : Ex) (s' : St) (S0 S : Sto) (H0 : List Blk) (pl0 pl : Pl) (a : Act) (w : World) (Q : Exit → Act → World → Prop), evCode C P (n + 1) (.loop c) s = some (e, s') → s.base ≤ s.H.length → TRel S s.H pl s.tmps a → WRel G B w0 S s.H pl w → ExtN s.base B S0 H0 pl0 S s.H pl → PostN P G s.base B w0 S0 H0 pl0 s' (Q e.to) → Code.rounds P c Q (n + 1) a w := by
      intro c s e s' S0 S H0 pl0 pl a w Q h hbs ht hw hE hp
      simp only [evCode] at h
      rw [rounds_succ]
      obtain ⟨hE', ht', hw', hbc, hlc⟩ := clean_sound (n := s.H.length) (s := s) hbs hbs hE ht hw
      cases hb : evCode C P n c (Av.head C.kl c s) with
      | none => rw [hb] at h; cases h
      | some r =>
        obtain ⟨e1, s1⟩ := r
        rw [hb] at h
        refine ihA c (Av.head C.kl c s) e1 s1 S pl a w _ hb (show (clean s.H.length s).base ≤ (clean s.H.length s).H.length by rw [hbc]; exact hlc) (TRel.wipe _ ht') hw' fun hb1 hl1 a1 S1 pl1 w1 hE1 hw1 ht1 => ?_
        have hb1 : s1.base = s.base := hb1.trans hbc
        have hl1 : s.base ≤ s1.H.length := by rw [← hbc]; exact hl1
        have hE1 : ExtN s.base B S (clean s.H.length s).H pl S1 s1.H pl1 := by rw [← hbc]; exact hE1
        have hE01 := hE'.trans hE1
        cases e1 with
        | norm =>
          obtain ⟨hE2, ht2, hw2, hb2, hl2⟩ := clean_sound (n := s.H.length) (s := s1) (by rw [hb1]; exact hbs) (by rw [hb1]; exact hl1) (by rw [hb1]; exact hE01) ht1 hw1
          rw [hb1] at hb2 hl2 hE2
          exact ihB c _ e s' S0 S1 H0 pl0 pl1 a1 w1 Q h (by rw [hb2]; exact hl2) ht2 hw2 (by rw [hb2]; exact hE2) (by rw [hb2]; exact hp)
        | exit id =>
          simp only [Option.some.injEq, Prod.mk.injEq] at h
          obtain ⟨rfl, rfl⟩ := h
          obtain ⟨hE2, ht2, hw2, hb2, hl2⟩ := leave_sound (c := c) (n := s.H.length) (s := s1) (by rw [hb1]; exact hbs) (by rw [hb1]; exact hl1) (by rw [hb1]; exact hE01) ht1 hw1
          rw [hb1] at hb2 hl2 hE2
          exact hp hb2 hl2 a1 S1 pl1 w1 hE2 hw2 ht2
        | ret =>
          simp only [Option.some.injEq, Prod.mk.injEq] at h
          obtain ⟨rfl, rfl⟩ := h
          obtain ⟨hE2, ht2, hw2, hb2, hl2⟩ := leave_sound (c := c) (n := s.H.length) (s := s1) (by rw [hb1]; exact hbs) (by rw [hb1]; exact hl1) (by rw [hb1]; exact hE01) ht1 hw1
          rw [hb1] at hb2 hl2 hE2
          exact hp hb2 hl2 a1 S1 pl1 w1 hE2 hw2 ht2
    have hA : ∀ (c : Code) (s : St) (e : Ex) (s' : St) (S : Sto) (pl : Pl) (a : Act) (w : World) (Q : Exit → Act → World → Prop), evCode C P (n + 1) c s = some (e, s') → s.base ≤ s.H.length → TRel S s.H pl s.tmps a → WRel G B w0 S s.H pl w → PostN P G s.base B w0 S s.H pl s' (Q e.to) → c.wp P Q a w := by
      intro c s e s' S pl a w Q h hbs ht hw hp
      cases c with
      | skip =>
        simp only [evCode, Option.some.injEq, Prod.mk.injEq] at h
        obtain ⟨rfl, rfl⟩ := h
        exact wp_skip (hp rfl hbs a S pl w (ExtN.refl hbs) hw ht)
      | label l =>
        simp only [evCode, Option.some.injEq, Prod.mk.injEq] at h
        obtain ⟨rfl, rfl⟩ := h
        exact wp_label (hp rfl hbs a S pl w (ExtN.refl hbs) hw ht)
      | region id ops d =>
        cases d with
        | true =>
          simp only [evCode] at h
          obtain ⟨S0, hE0, hw0, ht0⟩ := fzS_sound (C := C) ops ht hw
          cases hb : evDraw C P (evFn C (evCode C P n)) ops (fzS C ops s) with
          | none => rw [hb] at h; cases h
          | some s1 =>
            rw [hb] at h
            simp only [Option.some.injEq, Prod.mk.injEq] at h
            obtain ⟨rfl, rfl⟩ := h
            exact evDraw_sound hM hG hK ihC hb ht0 hw0 fun a2 S2 pl2 w2 hE2 hw2 ht2 => hp ((evDraw_base hb).trans (fzS_base _ _)) (Nat.le_trans hbs (hE0.trans hE2).len) a2 S2 pl2 w2 ((hE0.trans hE2).toN hbs) hw2 ht2
        | false =>
          simp only [evCode] at h
          obtain ⟨S0, hE0, hw0, ht0⟩ := fzS_sound (C := C) ops ht hw
          cases hb : evOps C P (evFn C (evCode C P n)) ops ops.toList (fzS C ops s) with
          | none => rw [hb] at h; cases h
          | some s1 =>
            rw [hb] at h
            simp only [Option.some.injEq, Prod.mk.injEq] at h
            obtain ⟨rfl, rfl⟩ := h
            exact wp_region_list (evOps_sound hG hK ihC _ (fzS C ops s) s1 S0 pl a w hb ht0 hw0 fun a2 S2 pl2 w2 hE2 hw2 ht2 => hp ((evOps_base _ _ _ hb).trans (fzS_base _ _)) (Nat.le_trans hbs (hE0.trans hE2).len) a2 S2 pl2 w2 ((hE0.trans hE2).toN hbs) hw2 ht2)
      | seq x y =>
        simp only [evCode] at h
        cases hb : evCode C P n x s with
        | none => rw [hb] at h; cases h
        | some r =>
          obtain ⟨e1, s1⟩ := r
          rw [hb] at h
          refine wp_seq (ihA x s e1 s1 S pl a w _ hb hbs ht hw fun hb1 hl1 a1 S1 pl1 w1 hE1 hw1 ht1 => ?_)
          cases e1 with
          | norm => exact ihA y s1 e s' S1 pl1 a1 w1 Q h (by rw [hb1]; exact hl1) ht1 hw1 (by rw [hb1]; exact fun hb2 hl2 a2 S2 pl2 w2 hE2 hw2 ht2 => hp hb2 hl2 a2 S2 pl2 w2 (hE1.trans hE2) hw2 ht2)
          | exit id =>
            simp only [Option.some.injEq, Prod.mk.injEq] at h
            obtain ⟨rfl, rfl⟩ := h
            exact hp hb1 hl1 a1 S1 pl1 w1 hE1 hw1 ht1
          | ret =>
            simp only [Option.some.injEq, Prod.mk.injEq] at h
            obtain ⟨rfl, rfl⟩ := h
            exact hp hb1 hl1 a1 S1 pl1 w1 hE1 hw1 ht1
      | cond c x y =>
        simp only [evCode] at h
        split at h
        · rename_i t hc
          have hv := ht.ev c
          rw [hc] at hv
          refine wp_cond hv.v_inv ?_
          cases t with
          | true => exact ihA x s e s' S pl a w Q h hbs ht hw hp
          | false => exact ihA y s e s' S pl a w Q h hbs ht hw hp
        · cases h
      | block id c =>
        simp only [evCode] at h
        cases hb : evCode C P n c s with
        | none => rw [hb] at h; cases h
        | some r =>
          obtain ⟨e1, s1⟩ := r
          rw [hb] at h
          refine wp_block (ihA c s e1 s1 S pl a w _ hb hbs ht hw fun hb1 hl1 a1 S1 pl1 w1 hE1 hw1 ht1 => ?_)
          cases e1 with
          | norm =>
            simp only [Option.some.injEq, Prod.mk.injEq] at h
            obtain ⟨rfl, rfl⟩ := h
            exact hp hb1 hl1 a1 S1 pl1 w1 hE1 hw1 ht1
          | exit i =>
            simp only at h
            show Exit.inBlock id Q (.exit i) a1 w1
            unfold Exit.inBlock
            split at h
            · rename_i hi
              simp only [Option.some.injEq, Prod.mk.injEq] at h
              obtain ⟨rfl, rfl⟩ := h
              simp only [hi, if_true]
              exact hp hb1 hl1 a1 S1 pl1 w1 hE1 hw1 ht1
            · rename_i hi
              simp only [Option.some.injEq, Prod.mk.injEq] at h
              obtain ⟨rfl, rfl⟩ := h
              simp only [hi, if_false]
              exact hp hb1 hl1 a1 S1 pl1 w1 hE1 hw1 ht1
          | ret =>
            simp only [Option.some.injEq, Prod.mk.injEq] at h
            obtain ⟨rfl, rfl⟩ := h
            exact hp hb1 hl1 a1 S1 pl1 w1 hE1 hw1 ht1
      | loop c => exact wp_loop_rounds (n + 1) (hB c s e s' S S s.H pl pl a w Q h hbs ht hw (ExtN.refl hbs) hp)
      | exit id =>
        simp only [evCode, Option.some.injEq, Prod.mk.injEq] at h
        obtain ⟨rfl, rfl⟩ := h
        exact wp_exit (hp rfl hbs a S pl w (ExtN.refl hbs) hw ht)
      | ret =>
        simp only [evCode, Option.some.injEq, Prod.mk.injEq] at h
        obtain ⟨rfl, rfl⟩ := h
        exact wp_ret (hp rfl hbs a S pl w (ExtN.refl hbs) hw ht)
      | scope c =>
        simp only [evCode] at h
        refine wp_scope_straight (ihA c s e s' S pl a w _ h hbs ht hw fun hb1 hl1 a1 S1 pl1 w1 hE1 hw1 ht1 => ?_)
        have := hp hb1 hl1 a1 S1 pl1 w1 hE1 hw1 ht1
        cases e <;> exact this
      | rangeFunc f ps as b => simp [evCode] at h
      | goto l => simp [evCode] at h
      | refuse y => simp [evCode] at h
    refine ⟨hA, hB, fun m args H r H' h => ?_⟩
    unfold evFn at h
    cases hfn : C.fn m with
    | none => rw [hfn] at h; cases h
    | some fn =>
      rw [hfn] at h
      refine ⟨⟨fn, rfl⟩, fun S pl w vs hvs hw => ?_⟩
      obtain ⟨hf, hb, _⟩ := hK.fn m fn hfn
      cases hbd : fn.body with
      | none => rw [hbd] at hb; cases hb
      | some c =>
        simp only [hbd] at h
        refine calls_of_wp hf hbd ?_
        have hT : TRel S H pl (args ++ List.replicate (fn.ntmps - args.length) .any) { tmps := vs.toArray ++ Array.replicate (fn.ntmps - vs.toArray.size) undef, defers := [] } := by
          refine ⟨rfl, by simp [hvs.1], fun i x u hx hu => ?_⟩
          by_cases hi : i < args.length
          · rw [List.getElem?_append_left hi] at hx
            rw [Array.getElem?_append_left (by simpa [hvs.1] using hi)] at hu
            exact hvs.2 i x u hx (by simpa using hu)
          · rw [List.getElem?_append_right (by omega), List.getElem?_replicate] at hx
            split at hx
            · obtain rfl := Option.some.inj hx
              exact .val _ _ (.any _)
            · cases hx
        cases hr : evCode C P (n + 1) c ⟨args ++ List.replicate (fn.ntmps - args.length) .any, H, H.length⟩ with
        | none => rw [hr] at h; cases h
        | some q =>
          obtain ⟨e, s⟩ := q
          rw [hr] at h
          refine hA c ⟨_, H, H.length⟩ e s S pl _ w _ hr (Nat.le_refl _) hT hw fun _ _ a1 S1 pl1 w1 hE1 hw1 ht1 => ?_
          have hE1 := hE1.full
          have key : (match resA C s.tmps s.H fn.results.toList with | some [x] => some (x, s.H) | some xs => some (.tup xs, s.H) | none => none) = some (r, H') → a1.defers = [] ∧ ∃ v, (results fn a1.tmps).run P w1 = .ok v w1 ∧ ∃ u S' pl', Ending.returned v = .returned u ∧ Ext B S H pl S' H' pl' ∧ WRel G B w0 S' H' pl' w1 ∧ Rep S' H' pl' r u := by
            intro hq
            cases hres : resA C s.tmps s.H fn.results.toList with
            | none => rw [hres] at hq; cases hq
            | some xs =>
              rw [hres] at hq
              have hone : resOne xs = r ∧ s.H = H' := by
                match xs, hq with
                | [], hq => simp only [Option.some.injEq, Prod.mk.injEq] at hq; exact hq
                | [x], hq => simp only [Option.some.injEq, Prod.mk.injEq] at hq; exact hq
                | x :: y :: t, hq => simp only [Option.some.injEq, Prod.mk.injEq] at hq; exact hq
              obtain ⟨rfl, rfl⟩ := hone
              obtain ⟨u, hu, hR⟩ := results_run hK ht1 hw1 hres
              exact ⟨ht1.1, u, hu, u, S1, pl1, rfl, hE1, hw1, hR⟩
          cases e with
          | norm => exact key h
          | ret => exact key h
          | exit id => cases h

/-- A function by the interpreter is a summary of it. -/
theorem models_of (hM : P.follows .mixedOrders = true) (hK : CtxOk P C G) (hG : ∀ w w', G w → Below w.heap.size w w' → G w') (n f : Nat) : Models P G f fun args => evFn C (evCode C P n) f args [] := by
  intro S w as vs r Hr hvs himm hg e
  have hw : WRel G w.heap.size w S [] (fun _ => none) w := by
    refine ⟨⟨fun k cs e => by simp at e, fun k e sz ver bv es q => by simp at q, fun k k' b l => by obtain ⟨⟨x, hx, _⟩, _⟩ := l; simp at hx, fun a u e k l => by obtain ⟨⟨x, hx, _⟩, _⟩ := l; simp at hx⟩, himm, Below.refl _ _, Nat.le_refl _, hg⟩
  obtain ⟨_, hc⟩ := (evCode_both (B := w.heap.size) (w0 := w) hM (fun w' hb => hG w w' hg hb) hK n).2.2 f as [] r Hr e
  refine (hc S _ w vs (hvs.mono fun x u h => .val _ _ h) hw).mono ?_
  rintro e w' ⟨u, S', pl', rfl, hE, hW, hR⟩
  exact ⟨u, S', pl', rfl, hE.S, fun a v hv hb => (hE.new a v hv).elim id fun hb' => absurd hb (Nat.not_lt.2 hb'), hW, hR⟩

theorem info_of {t : TypeId} {z : Option Value} {s b : Nat} (h : (P.info? t).map (fun i => (i.zero, i.size, i.bytes)) = some (z, s, b)) : ∃ i, P.info? t = some i ∧ i.zero = z ∧ i.size = s ∧ i.bytes = b := by
  cases hi : P.info? t with
  | none => simp [hi] at h
  | some i => simp [hi] at h; exact ⟨i, rfl, h.1, h.2.1, h.2.2⟩
/-- One row of the table of types. -/
def TdT (P : Program) (t : Nat) : TD → Prop
  | .one z => (∃ d, P.underlying t = some d ∧ d.isRow = false ∧ oneKind z d) ∧ ∃ i, P.info? t = some i ∧ i.size = 1 ∧ i.zero = some z ∧ z.oneCell' = true ∧ z.cells = #[z]
  | .agg sz fs zs => ∃ flds i, P.underlying t = some (.struct flds) ∧ P.info? t = some i ∧ i.size = sz ∧ i.zero = some (.agg zs.toArray) ∧ zs.length = sz ∧ 0 < sz ∧ (∀ z ∈ zs, z.oneCell' = true) ∧
    flds.toList.length = fs.length ∧ ∀ (j : Nat) f o s (g : Bool), flds[j]? = some f → fs[j]? = some (o, s, g) → f.offset = o ∧ 0 < s ∧ o + s ≤ sz ∧ (∃ i', P.info? f.type = some i' ∧ i'.size = s) ∧
      ∃ d, P.underlying f.type = some d ∧ d.isRow = g ∧ (g = false → s = 1)
  | .sl e sz bytes => P.underlying t = some (.slice e) ∧ 0 < sz ∧ (∃ i z, P.info? e = some i ∧ i.size = sz ∧ i.bytes = bytes ∧ i.zero = some z ∧ z.cells.size = sz) ∧ ∃ i, P.info? t = some i ∧ i.size = 1 ∧ i.zero = some (.slice none 0 0)
  | .no => True
theorem TdOk.of {C : Ctx} (h : ∀ t, TdT P t (C.td t)) (hc : ∀ t, C.conc t = true → ∃ d, P.underlying t = some d ∧ (match d with | .interface _ => false | _ => true) = true) : TdOk P C :=
  ⟨fun t z e => by have := h t; rw [e] at this; exact this, fun t sz fs zs e => by have := h t; rw [e] at this; exact this, fun t e' sz b e => by have := h t; rw [e] at this; exact this, hc⟩
end
end Go.Proofs.Ytnoaglgjhgnnfaa.Av
