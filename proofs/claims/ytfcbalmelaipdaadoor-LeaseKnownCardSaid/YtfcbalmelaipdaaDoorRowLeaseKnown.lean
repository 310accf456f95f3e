/- The row of the law LeaseKnown: whatever the input, the call returns true and leaves its arguments as they were. -/
import Derived.Test.YtfcbalmelaipdaaDoorRows
import Derived.Test.YtfcbalmelaipdaaDoorAhLk
import Derived.WalkKit
import Derived.ProofKit
import Derived.OpenShut
import Derived.ShutString
import Derived.ChangeOld
import Derived.Below
import Derived.SizedLaws
import Derived.Carry
import Derived.Test.YtfcbalmelaipdaaDoorGlob
import Derived.Test.YtfcbalmelaipdaaDoorTie
import Derived.Test.YtfcbalmelaipdaaDoorCards
import Derived.SevenTiedAt
namespace Go.Proofs.YtfcbalmelaipdaaDoor.leaseKnown
open Go Go.ChangeShapes Go.WideShapes Go.ChangeAt Go.RowKit Go.Proofs.YtfcbalmelaipdaaDoor.Av Go.Proofs.YtfcbalmelaipdaaDoor.AvT Go.Proofs.YtfcbalmelaipdaaDoor.AvS Go.Proofs.YtfcbalmelaipdaaDoor.Ag Go.Proofs.YtfcbalmelaipdaaDoor.Gl
set_option linter.unusedVariables false
theorem own : ownKnob Tryd.prog.godebug = none := by kernel_rfl
theorem laidOut : laidOutB Tryd.prog = true := by kernel_rfl
set_option maxRecDepth 100000 in
set_option maxHeartbeats 1000000 in
theorem lifted (os : Os) (started : os.Started) (H : Type) (enc : TypeId × Value → H) :
    ReturnsInHanded {} Tryd.checked os 5 .any (fun w args => (Rows.leaseKnownSpec.pre enc Tryd.prog Tryd.f5 [] false w args ∧ laidMetH Tryd.prog laid w) ∧ sizedMet enc Tryd.prog Tryd.f5 (OpenSpec.ofChange Rows.leaseKnownSpec) false w args) (Rows.leaseKnownSpec.post enc Tryd.prog Tryd.f5 false true false false) := by
  refine returnsInHanded_of_change_and (C := Tryd.checked) (X := fun w _ => laidMetH Tryd.prog laid w) (fun _ _ _ hh h => h.of_heap hh) own started (by kernel_rfl) Tryd.func5
    (ChangeSpec.witness_at (enc := enc) (C := Tryd.checked) (os := os) (X := fun w _ => laidMetH Tryd.prog laid w) false (laidWorld os) #[] 8 rfl (by kernel_rfl) (by kernel_rfl) (by kernel_rfl) (by kernel_rfl) (by kernel_rfl) (laidWorld_met os _)) ?_
  intro W base args ds gs before hval0 hW hcnd hsz0 hL _
  have hG : G0 W := glob_of_laid hL
  have hsz : (DataW.weightsEach Tryd.prog (Tryd.f5.params.toList ++ Rows.leaseKnownSpec.plain.varTypes Tryd.prog) (ds ++ gs)).all (· ≤ reachBytes) = true := hsz0
  have hval : ∀ (j : Nat) t v, Tryd.f5.params[j]? = some t → args[j]? = some v → Value.okWide Tryd.prog W .any base t v := hval0
  have hW' := hW
  obtain ⟨p, q, hA0, hV, rfl, hfz, hnd⟩ := hW
  have hA : DataW.TrodAll enc Tryd.prog W 0 (fun _ => true) true Tryd.f5.params.toList args.toList ds p := hA0
  rw [Tryd.params5] at hA hval hsz
  obtain ⟨hargs, rfl, rfl⟩ := trodAll_nil hA
  obtain rfl : args = #[] := by cases args; simp_all
  obtain ⟨rfl, rfl⟩ := trodVars_none hV
  have hF := law17_LeaseKnown_fn   true (pure_LeaseKnown  )
  refine (wholeV_models hM ok_law17_LeaseKnown hG0 5 (sto W) W _ [] _ _ Cs.nil (fun a u h => sto_imm h) hG hF.eq).mono ?_
  rintro e W' ⟨u, S', plr, rfl, hS, hnew, hWR, hR⟩
  obtain rfl := hR.v_inv
  have bel := hWR.below
  exact ⟨_, rfl, _, _, _, [], _, [], hW', trodAll_mk1 (shut_bool Tryd.underlying4 _), trodAll_mk0, rfl, bel.frame _, fun h => by cases h⟩
theorem over : Rows.leaseKnownRow.holds Tryd.pinned (OpenSpec.ofChange Rows.leaseKnownSpec) :=
  OpenClaim.holds_of_wide 5 Tryd.f5 rfl rfl rfl rfl rfl rfl rfl ⟨rfl, rfl, rfl, rfl, rfl⟩ rfl rfl rfl rfl rfl (by kernel_rfl) Tryd.func5 (by kernel_rfl)
    (of_decide_eq_true (by kernel_rfl)) (by unfold Func.isWrapper; first | (rw [if_pos (by decide +kernel)]; kernel_rfl) | (rw [if_neg (by decide +kernel)]; exact ⟨rfl, rfl⟩))
    (fun os started H enc _ => lifted os started H enc)
theorem stand (j : Nat) (t : TypeId) (ht : Tryd.f5.params[j]? = some t) : Tryd.prog.wantsStandIn t = false := by
  rw [Tryd.params5] at ht
  simp at ht
theorem proved : Rows.LeaseKnownCardSaid :=
  Claim7.holds_tied_plain_at .later [] [.handle] true (true, "3089fb0d2a46d8787f016f041fce83ce34a0c1eccf0574dd1d1c9d09c3ce0095") true over (fun _ h => by cases h) (by kernel_rfl) (fun _ h => by cases h) leaseKnown_row_tie rfl ⟨rfl, rfl⟩ (by kernel_rfl) rfl
    (fun f fn hf hfn => by
      obtain rfl : f = 5 := Option.some.inj ((show Tryd.prog.funcNamed "flotilla/flotillalaw17.LeaseKnown" = some 5 by kernel_rfl).symm.trans hf) |>.symm
      obtain rfl : fn = Tryd.f5 := (Option.some.inj (Tryd.func5.symm.trans hfn)).symm
      exact ⟨by kernel_rfl, stand⟩)
    (by kernel_rfl)
#print axioms proved
end Go.Proofs.YtfcbalmelaipdaaDoor.leaseKnown
namespace Go.Proofs.YtfcbalmelaipdaaDoor
/-- The statement, under a short name, for the claim. -/
theorem leaseKnown_holds : Rows.LeaseKnownCardSaid := leaseKnown.proved
end Go.Proofs.YtfcbalmelaipdaaDoor
