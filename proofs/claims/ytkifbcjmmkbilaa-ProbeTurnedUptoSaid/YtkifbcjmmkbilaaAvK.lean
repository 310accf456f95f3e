/- What the interpreter answers, the program answers. -/
import Derived.Test.YtkifbcjmmkbilaaAvJ
set_option linter.unusedVariables false
set_option linter.unusedSimpArgs false
namespace Go.Proofs.Ytkifbcjmmkbilaa.Av
open Go Go.RowKit
variable {P : Program}
section
variable {S : Sto} {H : List Blk} {pl : Pl} {A : Nat → Prop} {ds : List Deferred} {G : World → Prop} {B : Nat} {w0 w : World} {C : Ctx}

theorem op_call {call : Nat → List AV → List Blk → Option (AV × List Blk)} {tmps : List AV} {a : Act} {o : Oper} {c : Call} {f : Operand} {n : Nat} {caps : List AV} {y : AV} {H' : List Blk} (hG : ∀ w', Below B w0 w' → G w') (hK : CtxOk P C G) (hC : CallOk P C G B call) (ht : TRel ds S H pl tmps a) (h : WRel A G B w0 S H pl w)
    (ho : o.op = .call c) (hc : c.callee = .value f) (hf : evA tmps f = .fn n caps) (e : call n (c.args.toList.map (evA tmps) ++ caps) H = some (y, H')) : OpW P A G B w0 o a S H pl w y H' := by
  obtain ⟨⟨fn, hfn⟩, hcall⟩ := hC _ _ _ _ _ e
  obtain ⟨hn, hb, hname⟩ := hK.fn n fn hfn
  have hff := ht.ev f
  rw [hf] at hff
  obtain ⟨us, hu, hcap⟩ := hff.fn_inv
  have hargs := (evs_args ht c.args.toList).append hcap
  intro next Q k
  unfold Oper.wp
  rw [exec_call ho hc hu hn hb hname, Oper.upon_enter]
  have e1 : c.args.map a.eval ++ us.toArray = (c.args.toList.map a.eval ++ us).toArray := by
    rw [← List.append_toArray]
    congr 1
    rw [← List.map_toArray, Array.toArray_toList]
  rw [e1]
  refine (hcall A S pl w _ hargs h.self (fun w' hb => hG w' (h.below.trans hb))).mono ?_
  rintro e w' ⟨u, S', pl', rfl, hE, hW, hR⟩
  exact k u S' pl' w' hE (h.rebase hW) hR

theorem evOpE_sound {call : Nat → List AV → List Blk → Option (AV × List Blk)} {tmps : List AV} {a : Act} {o : Oper} {y : AV} {H' : List Blk} (hG : ∀ w', Below B w0 w' → G w') (hK : CtxOk P C G) (hC : CallOk P C G B call) (ht : TRel ds S H pl tmps a) (h : WRel A G B w0 S H pl w)
    (e : evOpE C call tmps H o = some (y, H')) : OpW P A G B w0 o a S H pl w y H' := by
  unfold evOpE at e
  split at e
  · rename_i ho
    split at e
    · rename_i e' sz by' htd
      simp only [Option.some.injEq, Prod.mk.injEq] at e
      obtain ⟨rfl, rfl⟩ := e
      exact op_nil hG hK.td ht h ho htd
    · cases e
  · rename_i t x lo hi mx ho
    split at e
    · cases e
    · split at e
      · rename_i id ver hx
        have hx : evA tmps x = .own id ver := by
          unfold maskA at hx
          split at hx
          · cases hx
          · exact hx
        split at e
        · rename_i z hz
          split at e
          · rename_i z' hz'
            simp only [Option.some.injEq, Prod.mk.injEq] at e
            obtain ⟨rfl, rfl⟩ := e
            exact op_freeze hK.td ht h ho hx hz hz'
          · cases e
        · cases e
      · cases e
  · rename_i src dst x ho
    split at e
    · rename_i z hz
      simp only [Option.some.injEq, Prod.mk.injEq] at e
      obtain ⟨rfl, rfl⟩ := e
      exact op_conv hK.td ht h ho hz
    · split at e
      · rename_i hsd
        subst hsd
        exact op_mark hG hK.td ht h ho e
      · cases e
  · rename_i t ho
    split at e
    · rename_i e' sz by' htd
      simp only [Option.some.injEq, Prod.mk.injEq] at e
      obtain ⟨rfl, rfl⟩ := e
      exact op_alloc_sl hG hK.td ht h ho htd
    · split at e
      · rename_i zs hz
        simp only [Option.some.injEq, Prod.mk.injEq] at e
        obtain ⟨rfl, rfl⟩ := e
        exact op_alloc hG hK.td ht h ho hz
      · cases e
  · rename_i t x ho
    split at e
    · rename_i hz
      simp only [Option.some.injEq, Prod.mk.injEq] at e
      obtain ⟨rfl, rfl⟩ := e
      exact op_box hG ht h ho hz
    · cases e
  · rename_i t x z ho
    split at e
    · rename_i H1 hs
      simp only [Option.some.injEq, Prod.mk.injEq] at e
      obtain ⟨rfl, rfl⟩ := e
      obtain ⟨w', pl', hr, hE, hW⟩ := store_sound hG hK.td h (ht.ev x) (zsl_rep (ht.ev z)) hs
      obtain ⟨pl2, hE2, hW2⟩ := ownB_sound hG C.oz hW
      exact .skip (by simp only [execOp, ho, Sem.run_bind, hr, Result.andThen_ok, Sem.run_pure]) (hE.trans hE2) hW2
    · cases e
  · rename_i t n parts ho
    split at e
    · rename_i e' sz by' htd
      split at e
      · rename_i zs hzs
        split at e
        · rename_i hn
          split at e
          · rename_i cs hcs
            simp only [Option.some.injEq, Prod.mk.injEq] at e
            obtain ⟨rfl, rfl⟩ := e
            exact op_buildSlice hG hK.td ht h ho htd hzs hn hcs fun us hu => frzs_sound cs us h hu
          · cases e
        · split at e
          · rename_i hn
            simp only [Option.some.injEq, Prod.mk.injEq] at e
            obtain ⟨rfl, rfl⟩ := e
            obtain ⟨rfl, hp⟩ := hn
            exact op_buildNil hG hK.td ht h ho hp htd
          · cases e
      · cases e
    · cases e
  · rename_i c ho
    split at e
    · rename_i hc
      split at e
      · rename_i s x t t' hargs hts
        split at e
        · rename_i htt
          subst htt
          split at e
          · rename_i e' sz by' htd
            exact op_append hG hK.td ht h ho hc hargs hts htd e
          · cases e
        · cases e
      · cases e
    · rename_i f hc
      split at e
      · rename_i r Hr hr
        split at e
        · rename_i y' hy
          simp only [Option.some.injEq, Prod.mk.injEq] at e
          obtain ⟨rfl, rfl⟩ := e
          refine callMA_q hG hK ht h ho hc hr ?_
          unfold takeV at hy
          split at hy
          · exact hy
          · cases hy
        · simp only [Option.some.injEq, Prod.mk.injEq] at e
          obtain ⟨rfl, rfl⟩ := e
          exact callMA_op hK ht h ho hc hr
      · split at e
        · rename_i n caps hf
          exact op_call hG hK hC ht h ho hc hf e
        · cases e
    · cases e
  · cases e

theorem evOp_sound {call : Nat → List AV → List Blk → Option (AV × List Blk)} {tmps : List AV} {a : Act} {o : Oper} {y : AV} {H' : List Blk} (hG : ∀ w', Below B w0 w' → G w') (hK : CtxOk P C G) (hC : CallOk P C G B call) (ht : TRel ds S H pl tmps a) (h : WRel A G B w0 S H pl w)
    (e : evOp C P call tmps H o = some (y, H')) : OpW P A G B w0 o a S H pl w y H' := by
  unfold evOp at e
  split at e
  · rename_i r hr
    obtain rfl := Option.some.inj e
    exact evOpE_sound hG hK hC ht h hr
  · split at e
    · rename_i x hx
      simp only [Option.some.injEq, Prod.mk.injEq] at e
      obtain ⟨rfl, rfl⟩ := e
      exact evOpQ_sound hG hK ht h hx
    · cases e

theorem wantA_sound {ops : Array Oper} {tmps : List AV} {a : Act} {o : Oper} {b : Bool} (ht : TRel ds S H pl tmps a) (e : wantA ops tmps o = some b) : Region.wanted o (yielded ops a.tmps) = b := by
  unfold wantA at e
  unfold Region.wanted
  split at e
  · rename_i hg
    obtain rfl := Option.some.inj e
    simp [hg]
  · rename_i j b' hg
    simp only [hg]
    split at e
    · rename_i d hd
      split at e
      · rename_i t htd
        obtain rfl := Option.some.inj e
        have hv := ht.ev (.tmp d)
        rw [show evA tmps (.tmp d) = .v (.bool t) from htd] at hv
        have hv := hv.v_inv
        have hget : a.tmps[d]? = some (.bool t) := by
          have hv' : a.tmps.getD d undef = .bool t := hv
          by_cases hds : d < a.tmps.size
          · simp [Array.getD, hds] at hv'
            rw [Array.getElem?_eq_getElem hds, hv']
          · simp [Array.getD, hds, undef] at hv'
        unfold yielded
        rw [hd]
        simp only [Option.bind_some, hget]
        cases t <;> cases b' <;> rfl
      · rename_i us htd
        obtain rfl := Option.some.inj e
        have hv := ht.ev (.tmp d)
        rw [show evA tmps (.tmp d) = .v (.tuple us) from htd] at hv
        have hv := hv.v_inv
        have hy : yielded ops a.tmps j = none := by
          unfold yielded
          rw [hd]
          simp only [Option.bind_some]
          by_cases hds : d < a.tmps.size
          · have hv' : a.tmps.getD d undef = .tuple us := hv
            simp [Array.getD, hds] at hv'
            rw [Array.getElem?_eq_getElem hds, hv']
          · rw [Array.getElem?_eq_none (Nat.le_of_not_lt hds)]
        rw [hy]
        cases b' <;> rfl
      · cases e
    · cases e

/-- What is owed behind a row of operations. -/
def Post (P : Program) (A : Nat → Prop) (G : World → Prop) (B : Nat) (w0 : World) (S : Sto) (H : List Blk) (pl : Pl) (s : St) (K : Act → World → Prop) : Prop :=
  ∀ a S' pl' w', Ext B S H pl S' s.H pl' → WRel A G B w0 S' s.H pl' w' → TRel ds S' s.H pl' s.tmps a → K a w'

/-- Activations of functions, or a round of a loop over a function: what is fenced is nothing. -/
def Fc (r : Option Nat) : Fence := match r with
  | none => Fence.wide
  | some l => Fence.wide.inRound l
theorem Fc_round (r : Option Nat) : (Fc r).round = r := by cases r <;> rfl
theorem Fc_fn (r : Option Nat) (f : FuncId) : (Fc r).fn f := by cases r <;> trivial
theorem Fc_depth (r : Option Nat) : (Fc r).depth = none := by cases r <;> rfl
theorem Fc_no {X : Prop} (r : Option Nat) : (Fc r).depth.isSome = true → X := fun q => by rw [Fc_depth] at q; cases q
theorem calls_in {rd : Option Nat} {dp f : Nat} {args : Array Value} {w : World} {R : Ending → World → Prop} (h : Calls P f args w R) : CallsIn (Fc rd) dp P f args w R := by
  cases rd with
  | none => exact callsIn_wide.2 h
  | some l => exact CallsIn.inRound l (callsIn_wide.2 h)
theorem rows_in {rd : Option Nat} {dp : Nat} {row : String} {args : Array Value} {w : World} {R : Value → World → Prop} (h : Rows P row args w R) : RowsIn (Fc rd) dp P row args w R := fun c cs _ => by
  obtain ⟨v, w', hr, hs⟩ := h c cs
  refine ⟨v, w', hr, ?_⟩
  cases rd with
  | none => exact stepsIn_wide.2 hs
  | some l => exact stepsIn_wide.2 hs
theorem oper_in {rd : Option Nat} {dp : Nat} {o : Oper} {a : Act} {w : World} {K : Act → World → Prop} {Q : Exit → Act → World → Prop} (hnd : ∀ c, o.op ≠ .defer c) (h : o.wp P a w K Q) : o.wpIn (Fc rd) dp P a w K Q := by
  refine ⟨fun f _ => Fc_fn rd f, ?_⟩
  rw [Fc_round, Oper.semAt_eq _ _ _ hnd]
  unfold Oper.wp at h
  generalize (execOp a.eval o).run P w = r at h ⊢
  cases r with
  | ok x w' =>
    cases x <;> first
      | exact h
      | exact And.intro (Fc_no rd) (calls_in h)
      | exact And.intro (Fc_no rd) (rows_in h)
      | exact h.elim
  | halt x w' => cases x <;> first | exact h | exact h.elim
theorem evOpQ_nd {tmps : List AV} {o : Oper} {x : AV} (e : evOpQ C P tmps H o = some x) : ∀ c, o.op ≠ .defer c := fun c q => by
  unfold evOpQ at e
  rw [q] at e
  cases e
theorem evOp_nd {call : Nat → List AV → List Blk → Option (AV × List Blk)} {tmps : List AV} {o : Oper} {r : AV × List Blk} (e : evOp C P call tmps H o = some r) : ∀ c, o.op ≠ .defer c := fun c q => by
  unfold evOp evOpE evOpQ at e
  rw [q] at e
  cases e

theorem evOps_sound {rd : Option Nat} {dp : Nat} {call : Nat → List AV → List Blk → Option (AV × List Blk)} (hG : ∀ w', Below B w0 w' → G w') (hK : CtxOk P C G) (hC : CallOk P C G B call) {ops : Array Oper} {Q : Exit → Act → World → Prop} : ∀ (l : List Oper) (s s' : St) (S : Sto) (pl : Pl) (a : Act) (w : World),
    evOps C P call ops l s = some s' → TRel ds S s.H pl s.tmps a → WRel A G B w0 S s.H pl w → Post (ds := ds) P A G B w0 S s.H pl s' (Q .normal) → wpListIn (Fc rd) dp P ops Q l a w
  | [], s, s', S, pl, a, w, e, ht, h, k => by
    simp only [evOps, Option.some.injEq] at e
    subst e
    exact k a S pl w (Ext.refl _ _ _) h ht
  | o :: l, s, s', S, pl, a, w, e, ht, h, k => by
    simp only [evOps] at e
    split at e
    · rename_i hw
      have hw := wantA_sound ht hw
      split at e
      · rename_i x H' hx
        have hop := evOp_sound hG hK hC ht h hx
        unfold wpListIn
        rw [if_pos hw]
        refine oper_in (evOp_nd hx) (hop _ _ fun u S' pl' w' hE hW hR => ?_)
        exact evOps_sound hG hK hC l _ s' S' pl' _ w' e ((ht.mono hE).put o.dst hR) hW fun a2 S2 pl2 w2 hE2 hW2 hT2 => k a2 S2 pl2 w2 (hE.trans hE2) hW2 hT2
      · cases e
    · rename_i hw
      have hw := wantA_sound ht hw
      unfold wpListIn
      rw [if_neg (by simp [hw])]
      exact ⟨fun f _ => Fc_fn rd f, evOps_sound hG hK hC l _ s' S pl _ w e (ht.put o.dst (.val _ _ (.v _))) h k⟩
    · cases e

end
end Go.Proofs.Ytkifbcjmmkbilaa.Av
