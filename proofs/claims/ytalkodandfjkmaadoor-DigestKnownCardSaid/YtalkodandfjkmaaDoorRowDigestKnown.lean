/- The row of the law DigestKnown: whatever the input, the call returns true and leaves its arguments as they were. -/
import Derived.Test.YtalkodandfjkmaaDoorRows
import Derived.Test.YtalkodandfjkmaaDoorDkF
import Derived.WalkKit
import Derived.ProofKit
import Derived.OpenShut
import Derived.ShutString
import Derived.ChangeOld
import Derived.Below
import Derived.SizedLaws
import Derived.Carry
import Derived.Test.YtalkodandfjkmaaDoorGlob
import Derived.Test.YtalkodandfjkmaaDoorTie
import Derived.Test.YtalkodandfjkmaaDoorCards
import Derived.SevenTiedAt
namespace Go.Proofs.YtalkodandfjkmaaDoor.digestKnown
open Go Go.ChangeShapes Go.WideShapes Go.ChangeAt Go.RowKit Go.Proofs.YtalkodandfjkmaaDoor.Av Go.Proofs.YtalkodandfjkmaaDoor.AvT Go.Proofs.YtalkodandfjkmaaDoor.AvS Go.Proofs.YtalkodandfjkmaaDoor.Ag Go.Proofs.YtalkodandfjkmaaDoor.Gl
set_option linter.unusedVariables false
theorem own : ownKnob Tryd.prog.godebug = none := by kernel_rfl
theorem laidOut : laidOutB Tryd.prog = true := by kernel_rfl
set_option maxRecDepth 100000 in
set_option maxHeartbeats 1000000 in
theorem lifted (os : Os) (started : os.Started) (H : Type) (enc : TypeId × Value → H) :
    ReturnsInHanded {} Tryd.checked os 4 .any (fun w args => (Rows.digestKnownSpec.pre enc Tryd.prog Tryd.f4 [] false w args ∧ laidMetH Tryd.prog laid w) ∧ sizedMet enc Tryd.prog Tryd.f4 (OpenSpec.ofChange Rows.digestKnownSpec) false w args) (Rows.digestKnownSpec.post enc Tryd.prog Tryd.f4 false true false false) := by
  refine returnsInHanded_of_change_and (C := Tryd.checked) (X := fun w _ => laidMetH Tryd.prog laid w) (fun _ _ _ hh h => h.of_heap hh) own started (by kernel_rfl) Tryd.func4
    (ChangeSpec.witness_at (enc := enc) (C := Tryd.checked) (os := os) (X := fun w _ => laidMetH Tryd.prog laid w) false (laidWorld os) #[] 8 rfl (by kernel_rfl) (by kernel_rfl) (by kernel_rfl) (by kernel_rfl) (by kernel_rfl) (laidWorld_met os _)) ?_
  intro W base args ds gs before hval0 hW hcnd hsz0 hL _
  have hG : G0 W := glob_of_laid hL
  have hsz : (DataW.weightsEach Tryd.prog (Tryd.f4.params.toList ++ Rows.digestKnownSpec.plain.varTypes Tryd.prog) (ds ++ gs)).all (· ≤ reachBytes) = true := hsz0
  have hval : ∀ (j : Nat) t v, Tryd.f4.params[j]? = some t → args[j]? = some v → Value.okWide Tryd.prog W .any base t v := hval0
  have hW' := hW
  obtain ⟨p, q, hA0, hV, rfl, hfz, hnd⟩ := hW
  have hA : DataW.TrodAll enc Tryd.prog W 0 (fun _ => true) true Tryd.f4.params.toList args.toList ds p := hA0
  rw [Tryd.params4] at hA hval hsz
  obtain ⟨hargs, rfl, rfl⟩ := trodAll_nil hA
  obtain rfl : args = #[] := by cases args; simp_all
  obtain ⟨rfl, rfl⟩ := trodVars_none hV
  have hF := law05_DigestKnown_fn   true (pure_DigestKnown  )
  refine (wholeV_models hM ok_law05_DigestKnown hG0 4 (sto W) W _ [] _ _ Cs.nil (fun a u h => sto_imm h) hG hF.eq).mono ?_
  rintro e W' ⟨u, S', plr, rfl, hS, hnew, hWR, hR⟩
  obtain rfl := hR.v_inv
  have bel := hWR.below
  exact ⟨_, rfl, _, _, _, [], _, [], hW', trodAll_mk1 (shut_bool Tryd.underlying4 _), trodAll_mk0, rfl, bel.frame _, fun h => by cases h⟩
theorem over : Rows.digestKnownRow.holds Tryd.pinned (OpenSpec.ofChange Rows.digestKnownSpec) :=
  OpenClaim.holds_of_wide 4 Tryd.f4 rfl rfl rfl rfl rfl rfl rfl ⟨rfl, rfl, rfl, rfl, rfl⟩ rfl rfl rfl rfl rfl (by kernel_rfl) Tryd.func4 (by kernel_rfl)
    (of_decide_eq_true (by kernel_rfl)) (by unfold Func.isWrapper; first | (rw [if_pos (by decide +kernel)]; kernel_rfl) | (rw [if_neg (by decide +kernel)]; exact ⟨rfl, rfl⟩))
    (fun os started H enc _ => lifted os started H enc)
theorem stand (j : Nat) (t : TypeId) (ht : Tryd.f4.params[j]? = some t) : Tryd.prog.wantsStandIn t = false := by
  rw [Tryd.params4] at ht
  simp at ht
theorem proved : Rows.DigestKnownCardSaid :=
  Claim7.holds_tied_plain_at .later [] [.handle] true (true, "14f6215845da3b1b87c809c1a9a01a0779e230af4647e8f15d715c4bb5ea464f") true over (fun _ h => by cases h) (by kernel_rfl) (fun _ h => by cases h) digestKnown_row_tie rfl ⟨rfl, rfl⟩ (by kernel_rfl) rfl
    (fun f fn hf hfn => by
      obtain rfl : f = 4 := Option.some.inj ((show Tryd.prog.funcNamed "flotilla/flotillalaw05.DigestKnown" = some 4 by kernel_rfl).symm.trans hf) |>.symm
      obtain rfl : fn = Tryd.f4 := (Option.some.inj (Tryd.func4.symm.trans hfn)).symm
      exact ⟨by kernel_rfl, stand⟩)
    (by kernel_rfl)
#print axioms proved
end Go.Proofs.YtalkodandfjkmaaDoor.digestKnown
namespace Go.Proofs.YtalkodandfjkmaaDoor
/-- The statement, under a short name, for the claim. -/
theorem digestKnown_holds : Rows.DigestKnownCardSaid := digestKnown.proved
end Go.Proofs.YtalkodandfjkmaaDoor
