/- The interpreter's quiet operations, held against the program's own. -/
import Derived.Test.YtkifbcjmmkbilaaAvO
import Derived.Laws.StructEq
set_option linter.unusedVariables false
set_option linter.unusedSimpArgs false
namespace Go.Proofs.Ytkifbcjmmkbilaa.Av
open Go Go.RowKit
variable {P : Program}
section
variable {S : Sto} {H : List Blk} {pl : Pl} {A : Nat → Prop} {ds : List Deferred} {G : World → Prop} {B : Nat} {w0 w : World}

/-- Taken apart, by value or not. -/
theorem Rep.agg_inv {cs : List AV} {u : Value} (h : Rep S H pl (.agg cs) u) : ∃ us, u = .agg us.toArray ∧ Cs (Rep S H pl) cs us := by
  cases h with
  | val _ _ h => cases h with | agg _ us hl k => exact ⟨us, rfl, hl, fun j x u hx hu => .val _ _ (k j x u hx hu)⟩
  | agg _ us hl k => exact ⟨us, rfl, hl, k⟩
theorem Rep.tup_inv {cs : List AV} {u : Value} (h : Rep S H pl (.tup cs) u) : ∃ us, u = .tuple us.toArray ∧ Cs (Rep S H pl) cs us := by
  cases h with
  | val _ _ h => cases h with | tup _ us hl k => exact ⟨us, rfl, hl, fun j x u hx hu => .val _ _ (k j x u hx hu)⟩
  | tup _ us hl k => exact ⟨us, rfl, hl, k⟩
theorem Rep.fn_inv {f : Nat} {cs : List AV} {u : Value} (h : Rep S H pl (.fn f cs) u) : ∃ us, u = .func (.func f) #[] us.toArray ∧ Cs (Rep S H pl) cs us := by
  cases h with
  | val _ _ h => cases h with | fn _ _ us hl k => exact ⟨us, rfl, hl, fun j x u hx hu => .val _ _ (k j x u hx hu)⟩
  | fn _ _ us hl k => exact ⟨us, rfl, hl, k⟩
theorem Rep.ifc_inv {t : Nat} {x : AV} {u : Value} (h : Rep S H pl (.ifc t x) u) : ∃ v, u = .iface t v ∧ Rep S H pl x v := by
  cases h with
  | val _ _ h => cases h with | ifc _ _ v k => exact ⟨v, rfl, .val _ _ k⟩
  | ifc _ _ v k => exact ⟨v, rfl, k⟩
theorem Rep.v_inv {x u : Value} (h : Rep S H pl (.v x) u) : u = x := by
  cases h with | val _ _ h => cases h; rfl

theorem Cs.tail {R : AV → Value → Prop} {x : AV} {cs : List AV} {us : List Value} (h : Cs R (x :: cs) us) : ∃ u us', us = u :: us' ∧ R x u ∧ Cs R cs us' := by
  obtain ⟨hl, k⟩ := h
  cases us with
  | nil => simp at hl
  | cons u us' => exact ⟨u, us', rfl, k 0 x u rfl rfl, by simpa using hl, fun j y v hy hv => k (j + 1) y v (by simpa using hy) (by simpa using hv)⟩
theorem Cs.nil_inv {R : AV → Value → Prop} {us : List Value} (h : Cs R [] us) : us = [] := List.eq_nil_of_length_eq_zero h.1
theorem Cs.cons {R : AV → Value → Prop} {x : AV} {u : Value} {cs : List AV} {us : List Value} (h : R x u) (k : Cs R cs us) : Cs R (x :: cs) (u :: us) := Cs.append (Cs.one h) k

mutual
theorem plain_rep : (x : AV) → ∀ {v u : Value}, x.plain = some v → Rep S H pl x u → u = v
  | .v x, v, u, h, r => by simp [AV.plain] at h; subst h; exact r.v_inv
  | .agg cs, v, u, h, r => by
    obtain ⟨us, rfl, k⟩ := r.agg_inv
    simp only [AV.plain] at h
    cases hp : AV.plains cs with
    | none => simp [hp] at h
    | some vs => simp [hp] at h; subst h; rw [plains_rep cs hp k]
  | .ifc t x, v, u, h, r => by
    obtain ⟨y, rfl, k⟩ := r.ifc_inv
    simp only [AV.plain] at h
    cases hp : AV.plain x with
    | none => simp [hp] at h
    | some z => simp [hp] at h; subst h; rw [plain_rep x hp k]
  | .any, v, u, h, r => by simp [AV.plain] at h
  | .lst _ _ _ _, v, u, h, r => by simp [AV.plain] at h
  | .z _ _, v, u, h, r => by simp [AV.plain] at h
  | .ept _, v, u, h, r => by simp [AV.plain] at h
  | .own _ _, v, u, h, r => by simp [AV.plain] at h
  | .gpt _ _ _ _, v, u, h, r => by simp [AV.plain] at h
  | .ptr _ _, v, u, h, r => by simp [AV.plain] at h
  | .tup _, v, u, h, r => by simp [AV.plain] at h
  | .fn _ _, v, u, h, r => by simp [AV.plain] at h
theorem plains_rep : (cs : List AV) → ∀ {vs us : List Value}, AV.plains cs = some vs → Cs (Rep S H pl) cs us → us = vs
  | [], vs, us, h, k => by simp [AV.plains] at h; subst h; exact k.nil_inv
  | x :: cs, vs, us, h, k => by
    obtain ⟨u, us', rfl, hx, kc⟩ := k.tail
    simp only [AV.plains] at h
    cases hp : AV.plain x with
    | none => simp [hp] at h
    | some y =>
      cases hq : AV.plains cs with
      | none => simp [hp, hq] at h
      | some ys => simp [hp, hq] at h; subst h; rw [plain_rep x hp hx, plains_rep cs hq kc]
end

theorem pureOut_run {α : Type} : ∀ (e : Sem α) (x : α), pureOut P e = some x → ∀ w, e.run P w = .ok x w := by
  intro e
  induction e with
  | pure a => intro x h w; simp [pureOut] at h; subst h; rfl
  | mark m k ih => intro x h w; exact ih x h w
  | program k ih => intro x h w; exact ih P x h w
  | _ => intro x h w; simp [pureOut] at h

/-- What an operation owes: behind it, whatever comes next from related states. -/
def OpW (P : Program) (A : Nat → Prop) (G : World → Prop) (B : Nat) (w0 : World) (o : Oper) (a : Act) (S : Sto) (H : List Blk) (pl : Pl) (w : World) (x : AV) (H' : List Blk) : Prop :=
  ∀ (next : Act → World → Prop) (Q : Exit → Act → World → Prop), (∀ u S' pl' w', Ext B S H pl S' H' pl' → WRel A G B w0 S' H' pl' w' → Rep S' H' pl' x u → next (a.put o.dst u) w') → o.wp P a w next Q

theorem OpW.run {o : Oper} {a : Act} {x : AV} {H' : List Blk} {u : Value} {S' : Sto} {pl' : Pl} {w' : World} (hr : (execOp a.eval o).run P w = .ok (.value u) w') (he : Ext B S H pl S' H' pl') (hw : WRel A G B w0 S' H' pl' w') (hx : Rep S' H' pl' x u) : OpW P A G B w0 o a S H pl w x H' := by
  intro next Q k
  unfold Oper.wp
  rw [hr]
  exact k u S' pl' w' he hw hx
theorem OpW.skip {o : Oper} {a : Act} {H' : List Blk} {S' : Sto} {pl' : Pl} {w' : World} (hr : (execOp a.eval o).run P w = .ok .skip w') (he : Ext B S H pl S' H' pl') (hw : WRel A G B w0 S' H' pl' w') : OpW P A G B w0 o a S H pl w .any H' := by
  intro next Q k
  unfold Oper.wp
  rw [hr]
  exact k undef S' pl' w' he hw (.val _ _ (.any _))
theorem OpW.still {o : Oper} {a : Act} {x : AV} {u : Value} (h : WRel A G B w0 S H pl w) (hr : (execOp a.eval o).run P w = .ok (.value u) w) (hx : Rep S H pl x u) : OpW P A G B w0 o a S H pl w x H :=
  .run hr (Ext.refl _ _ _) h hx

theorem evR_eq {tmps : List AV} {a : Act} (ht : TRel ds S H pl tmps a) {x : Operand} (h : (evP tmps x).isSome = true) : evR tmps x = a.eval x := by
  obtain ⟨v, hv⟩ := Option.isSome_iff_exists.1 h
  have := plain_rep _ hv (ht.ev x)
  unfold evR
  rw [show AV.plain (evA tmps x) = some v from hv]
  exact this.symm

theorem pureOp_sound {tmps : List AV} {a : Act} {o : Oper} {x : AV} (ht : TRel ds S H pl tmps a) (h : WRel A G B w0 S H pl w) (e : pureOp P tmps o = some x)
    (hc : ∀ r r' : Operand → Value, (∀ y ∈ o.op.operands, r y = r' y) → execOp r o = execOp r' o) : OpW P A G B w0 o a S H pl w x H := by
  unfold pureOp at e
  split at e
  · rename_i hp
    split at e
    · rename_i u hu
      obtain rfl := Option.some.inj e
      have heq : execOp (evR tmps) o = execOp a.eval o := hc _ _ fun y hy => evR_eq ht (List.all_eq_true.1 hp y (Array.mem_toList_iff.2 hy))
      rw [heq] at hu
      exact .still h (pureOut_run _ _ hu w) (.val _ _ (.v _))
    · cases e
  · cases e
end
end Go.Proofs.Ytkifbcjmmkbilaa.Av
