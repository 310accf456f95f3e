/- The row of the law RulesEvicted: whatever the input, the call returns true and leaves its arguments as they were. -/
import Derived.Test.YtcchccdbkpidpaaDoorRows
import Derived.Test.YtcchccdbkpidpaaDoorAhEv
import Derived.WalkKit
import Derived.ProofKit
import Derived.OpenShut
import Derived.ShutString
import Derived.ChangeOld
import Derived.Below
import Derived.SizedLaws
import Derived.Carry
import Derived.Test.YtcchccdbkpidpaaDoorGlob
import Derived.Test.YtcchccdbkpidpaaDoorTie
import Derived.Test.YtcchccdbkpidpaaDoorCards
import Derived.SevenTiedAt
namespace Go.Proofs.YtcchccdbkpidpaaDoor.rulesEvicted
open Go Go.ChangeShapes Go.WideShapes Go.ChangeAt Go.RowKit Go.Proofs.YtcchccdbkpidpaaDoor.Av Go.Proofs.YtcchccdbkpidpaaDoor.AvT Go.Proofs.YtcchccdbkpidpaaDoor.AvS Go.Proofs.YtcchccdbkpidpaaDoor.Ag Go.Proofs.YtcchccdbkpidpaaDoor.Gl
set_option linter.unusedVariables false
theorem own : ownKnob Tryd.prog.godebug = none := by kernel_rfl
theorem laidOut : laidOutB Tryd.prog = true := by kernel_rfl
set_option maxRecDepth 100000 in
set_option maxHeartbeats 1000000 in
theorem lifted (os : Os) (started : os.Started) (H : Type) (enc : TypeId × Value → H) :
    ReturnsInHanded {} Tryd.checked os 6 .any (fun w args => (Rows.rulesEvictedSpec.pre enc Tryd.prog Tryd.f6 [] false w args ∧ laidMetH Tryd.prog laid w) ∧ sizedMet enc Tryd.prog Tryd.f6 (OpenSpec.ofChange Rows.rulesEvictedSpec) false w args) (Rows.rulesEvictedSpec.post enc Tryd.prog Tryd.f6 false true false false) := by
  refine returnsInHanded_of_change_and (C := Tryd.checked) (X := fun w _ => laidMetH Tryd.prog laid w) (fun _ _ _ hh h => h.of_heap hh) own started (by kernel_rfl) Tryd.func6
    (ChangeSpec.witness_at (enc := enc) (C := Tryd.checked) (os := os) (X := fun w _ => laidMetH Tryd.prog laid w) false (laidWorld os) #[.agg #[.slice none 0 0, .slice none 0 0, .slice none 0 0, .slice none 0 0], .string ByteArray.empty] 8 rfl (by kernel_rfl) (by kernel_rfl) (by kernel_rfl) (by kernel_rfl) (by kernel_rfl) (laidWorld_met os _)) ?_
  intro W base args ds gs before hval0 hW hcnd hsz0 hL _
  have hG : G0 W := glob_of_laid hL
  have hsz : (DataW.weightsEach Tryd.prog (Tryd.f6.params.toList ++ Rows.rulesEvictedSpec.plain.varTypes Tryd.prog) (ds ++ gs)).all (· ≤ reachBytes) = true := hsz0
  have hval : ∀ (j : Nat) t v, Tryd.f6.params[j]? = some t → args[j]? = some v → Value.okWide Tryd.prog W .any base t v := hval0
  have hW' := hW
  obtain ⟨p, q, hA0, hV, rfl, hfz, hnd⟩ := hW
  have hA : DataW.TrodAll enc Tryd.prog W 0 (fun _ => true) true Tryd.f6.params.toList args.toList ds p := hA0
  rw [Tryd.params6] at hA hval hsz
  obtain ⟨v0, vs0, d0, ds0, p0, q0, hargs, rfl, rfl, h0, r0⟩ := trodAll_cons hA
  obtain ⟨v1, vs1, d1, ds1, p1, q1, rfl, rfl, rfl, h1, r1⟩ := trodAll_cons r0
  obtain ⟨rfl, rfl, rfl⟩ := trodAll_nil r1
  obtain rfl : args = #[v0, v1] := by cases args; simp_all
  obtain ⟨rfl, rfl⟩ := trodVars_none hV
  have k0 := h0
  have lt0 : ∀ x ∈ p0, x.block < W.heap.size := by obtain ⟨m, hm⟩ := k0; exact DataW.trod_lt m _ _ _ hm
  obtain ⟨x0, K0, O0⟩ := Av.open_arg opensFleet hsz (j := 0) rfl rfl h0
  obtain ⟨cs0, rfl, _⟩ := okWide_struct Tryd.underlying24 (hval 0 24 v0 rfl rfl)
  have V0 := arg_agg K0
  have k1 := h1
  have lt1 : ∀ x ∈ p1, x.block < W.heap.size := by obtain ⟨m, hm⟩ := k1; exact DataW.trod_lt m _ _ _ hm
  obtain ⟨x1, K1, O1⟩ := Av.open_arg (opens_string Tryd.underlying9) hsz (j := 1) rfl rfl h1
  obtain ⟨y1, rfl⟩ := okWide_string Tryd.underlying9 (hval 1 9 v1 rfl rfl)
  have V1 := arg_one rfl K1
  have hF := law16_RulesEvicted_fn [] [] x0 x1 true (pure_RulesEvicted x0 x1 O0 O1)
  refine (wholeV_models hM ok_law16_RulesEvicted hG0 6 (sto W) W _ [_, _] _ _ (Cs.cons V0 (Cs.cons V1 Cs.nil)) (fun a u h => sto_imm h) hG hF.eq).mono ?_
  rintro e W' ⟨u, S', plr, rfl, hS, hnew, hWR, hR⟩
  obtain rfl := hR.v_inv
  have bel := hWR.below
  exact ⟨_, rfl, _, _, _, [], _, [], hW', trodAll_mk1 (shut_bool Tryd.underlying4 _), (trodAll_cons_mk (Below.trod laidOut (by kernel_rfl) (of_decide_eq_true (by kernel_rfl)) k0 bel lt0) (trodAll_cons_mk (Below.trod laidOut (by kernel_rfl) (of_decide_eq_true (by kernel_rfl)) k1 bel lt1) trodAll_mk0)), rfl, bel.frame _, fun h => by cases h⟩
theorem over : Rows.rulesEvictedRow.holds Tryd.pinned (OpenSpec.ofChange Rows.rulesEvictedSpec) :=
  OpenClaim.holds_of_wide 6 Tryd.f6 rfl rfl rfl rfl rfl rfl rfl ⟨rfl, rfl, rfl, rfl, rfl⟩ rfl rfl rfl rfl rfl (by kernel_rfl) Tryd.func6 (by kernel_rfl)
    (of_decide_eq_true (by kernel_rfl)) (by unfold Func.isWrapper; first | (rw [if_pos (by decide +kernel)]; kernel_rfl) | (rw [if_neg (by decide +kernel)]; exact ⟨rfl, rfl⟩))
    (fun os started H enc _ => lifted os started H enc)
theorem stand (j : Nat) (t : TypeId) (ht : Tryd.f6.params[j]? = some t) : Tryd.prog.wantsStandIn t = false := by
  rw [Tryd.params6] at ht
  have hm : t ∈ [24, 9] := by
    have := Array.mem_of_getElem? ht
    simpa using this
  simp only [List.mem_cons, List.not_mem_nil, or_false] at hm
  rcases hm with rfl | rfl
  · exact (show Tryd.prog.wantsStandIn 24 = false by kernel_rfl)
  · exact (show Tryd.prog.wantsStandIn 9 = false by kernel_rfl)
theorem proved : Rows.RulesEvictedCardSaid :=
  Claim7.holds_tied_plain_at .later [] [.handle] true (true, "44473acb2f3280a98dfbfef774e6892d0d3f94cd589b1cb4363b637f2469f72c") true over (fun _ h => by cases h) (by kernel_rfl) (fun _ h => by cases h) rulesEvicted_row_tie rfl ⟨rfl, rfl⟩ (by kernel_rfl) rfl
    (fun f fn hf hfn => by
      obtain rfl : f = 6 := Option.some.inj ((show Tryd.prog.funcNamed "flotilla/flotillalaw16.RulesEvicted" = some 6 by kernel_rfl).symm.trans hf) |>.symm
      obtain rfl : fn = Tryd.f6 := (Option.some.inj (Tryd.func6.symm.trans hfn)).symm
      exact ⟨by kernel_rfl, stand⟩)
    (by kernel_rfl)
#print axioms proved
end Go.Proofs.YtcchccdbkpidpaaDoor.rulesEvicted
namespace Go.Proofs.YtcchccdbkpidpaaDoor
/-- The statement, under a short name, for the claim. -/
theorem rulesEvicted_holds : Rows.RulesEvictedCardSaid := rulesEvicted.proved
end Go.Proofs.YtcchccdbkpidpaaDoor
