/- The row of the law ProbeTurned: whatever the input, the call returns true and leaves its arguments as they were. -/
import Derived.Test.YtkifbcjmmkbilaaRows
import Derived.Test.YtkifbcjmmkbilaaPu
import Derived.WalkKit
import Derived.ProofKit
import Derived.OpenShut
import Derived.ShutString
import Derived.ChangeOld
import Derived.Below
import Derived.SizedLaws
import Derived.Carry
import Derived.JoinedCond
import Derived.Deep.CondSized
import Derived.ChangeArms
namespace Go.Proofs.Ytkifbcjmmkbilaa.probeTurned
open Go Go.ChangeShapes Go.WideShapes Go.ChangeAt Go.RowKit Go.Proofs.Ytkifbcjmmkbilaa.Av Go.Proofs.Ytkifbcjmmkbilaa.AvT Go.Proofs.Ytkifbcjmmkbilaa.AvS Go.Proofs.Ytkifbcjmmkbilaa.Ag
set_option linter.unusedVariables false
theorem own : ownKnob Try.prog.godebug = none := by kernel_rfl
theorem laidOut : laidOutB Try.prog = true := by kernel_rfl
set_option maxRecDepth 100000 in
set_option maxHeartbeats 1000000 in
theorem bulk_one {H : Type} (d : DataW H) : 1 ≤ Rows.uptoBulk d := by
  unfold Rows.uptoBulk
  split <;> omega
theorem bulk_len {H : Type} : ∀ l : List (DataW H), l.length ≤ Rows.uptoBulkAll l
  | [] => Nat.zero_le _
  | d :: l => by
    have := bulk_one d
    have := bulk_len l
    rw [Rows.uptoBulkAll, List.length_cons]
    omega
theorem slice_bulk {H : Type} {enc : TypeId × Value → H} {P : Program} {W : World} {base : Nat} {spare : Nat → Bool} {held : Bool} {m : Nat} {t e : TypeId} {a : Option Addr} {len cap : Nat} {d : DataW H} {p : List MemPlace} (ht : P.underlying t = some (.slice e))
    (h : DataW.trod enc P W base spare held m t (Value.cells (.slice a len cap)).toList = some (d, p)) : len ≤ Rows.uptoBulk d := by
  rcases DataW.trod_slice ht h with ⟨hc, hx⟩ | ⟨a', len', cap', elems, rest, n, _, hc, hx, _, _, _, hlen, _⟩
  · simp [Value.cells] at hc
    omega
  · simp [Value.cells] at hc
    obtain ⟨_, rfl, _⟩ := hc
    simp only [Prod.mk.injEq] at hx
    obtain ⟨rfl, _⟩ := hx
    have := bulk_len (elems.map (·.1))
    rw [List.length_map] at this
    rw [Rows.uptoBulk]
    omega
theorem lst_len {α : Type} [Inhabited α] {S : Sto} {sz : Nat} {enc : α → List AV} {l s : List α} {a : Option Addr} {len cap : Nat} (h : RepV S (lstOf sz enc l s) (.slice a len cap)) : l.length = len := by
  unfold lstOf at h
  generalize l.length + s.length = m at h
  generalize l.length = n at h
  cases h <;> rfl
set_option maxRecDepth 100000 in
set_option maxHeartbeats 1000000 in
theorem lifted (os : Os) (started : os.Started) (H : Type) (enc : TypeId × Value → H) (F0 : Stop.Interp) :
    ReturnsInHanded {} Try.checked os 5 .any ((Rows.OpenSpec.upto Rows.probeTurnedSpec).pre6 enc Try.prog Try.f5 Rows.probeTurnedUptoRow.domain false) (((Rows.OpenSpec.upto Rows.probeTurnedSpec).at F0).post enc Try.prog Try.f5 false true false false) := by
  refine returnsInHanded_of_cond_sized (C := Try.checked) (s := Rows.OpenSpec.upto Rows.probeTurnedSpec) (k := Rows.uptoSmall) rfl own started (by kernel_rfl) Try.func5
    (OpenSpec.witness (enc := enc) (C := Try.checked) (s := Rows.OpenSpec.upto Rows.probeTurnedSpec) (k := Rows.uptoSmall) rfl false ⟨#[], #[.agg #[.int .i64 0, .int .i64 0, .bool false], .slice none 0 0, .agg #[.int .i64 0, .int .i64 0]], []⟩ 8 (by kernel_rfl) (by kernel_rfl) (by kernel_rfl) (x := ([.agg [.lit (.int .i64 0), .lit (.int .i64 0), .lit (.bool false)], .nil, .agg [.lit (.int .i64 0), .lit (.int .i64 0)]], [], [])) (by kernel_rfl) (by kernel_rfl) (by kernel_rfl)) ?_
  intro W base args ds gs before hval0 hW hcnd hkk hsz0 _
  have hG : G0 W := trivial
  have hsz : (DataW.weightsEach Try.prog (Try.f5.params.toList ++ Rows.probeTurnedSpec.plain.varTypes Try.prog) (ds ++ gs)).all (· ≤ reachBytes) = true := hsz0
  have hval : ∀ (j : Nat) t v, Try.f5.params[j]? = some t → args[j]? = some v → Value.okWide Try.prog W .any base t v := hval0
  have hW' := hW
  obtain ⟨p, q, hA0, hV, rfl, hfz, hnd⟩ := hW
  have hA : DataW.TrodAll enc Try.prog W 0 (fun _ => true) true Try.f5.params.toList args.toList ds p := hA0
  rw [Try.params5] at hA hval hsz
  obtain ⟨v0, vs0, d0, ds0, p0, q0, hargs, rfl, rfl, h0, r0⟩ := trodAll_cons hA
  obtain ⟨v1, vs1, d1, ds1, p1, q1, rfl, rfl, rfl, h1, r1⟩ := trodAll_cons r0
  obtain ⟨v2, vs2, d2, ds2, p2, q2, rfl, rfl, rfl, h2, r2⟩ := trodAll_cons r1
  obtain ⟨rfl, rfl, rfl⟩ := trodAll_nil r2
  obtain rfl : args = #[v0, v1, v2] := by cases args; simp_all
  obtain ⟨rfl, rfl⟩ := trodVars_none hV
  have k0 := h0
  have lt0 : ∀ x ∈ p0, x.block < W.heap.size := by obtain ⟨m, hm⟩ := k0; exact DataW.trod_lt m _ _ _ hm
  obtain ⟨x0, K0, O0⟩ := Av.open_arg opensProbe hsz (j := 0) rfl rfl h0
  obtain ⟨cs0, rfl, _⟩ := okWide_struct Try.underlying23 (hval 0 23 v0 rfl rfl)
  have V0 := arg_agg K0
  have k1 := h1
  have lt1 : ∀ x ∈ p1, x.block < W.heap.size := by obtain ⟨m, hm⟩ := k1; exact DataW.trod_lt m _ _ _ hm
  obtain ⟨x1, K1, O1⟩ := Av.open_arg (opens_slice (d := Kv.bool) 1 Try.underlying24 (by kernel_rfl) (by kernel_rfl) (opens_bool Try.underlying4)) hsz (j := 1) rfl rfl h1
  obtain ⟨a1, len1, cap1, rfl⟩ := okWide_slice Try.underlying24 (hval 1 24 v1 rfl rfl)
  have V1 := arg_one rfl K1
  have k2 := h2
  have lt2 : ∀ x ∈ p2, x.block < W.heap.size := by obtain ⟨m, hm⟩ := k2; exact DataW.trod_lt m _ _ _ hm
  obtain ⟨x2, K2, O2⟩ := Av.open_arg openslaw22_Rates hsz (j := 2) rfl rfl h2
  obtain ⟨cs2, rfl, _⟩ := okWide_struct Try.underlying26 (hval 2 26 v2 rfl rfl)
  have V2 := arg_agg K2
  have hkk2 : Rows.uptoBulkAll ([d0, d1, d2] : List (DataW H)) ≤ 1048576 := by simpa [Rows.uptoSmall] using hkk
  simp only [Rows.uptoBulkAll] at hkk2
  have small1 : x1.length ≤ 1048576 := by
    obtain ⟨m, hm⟩ := k1
    have h1 := slice_bulk Try.underlying24 hm
    have h2 := lst_len V1
    omega
  have hF := law22_ProbeTurned_fn [] x0 x1 x2 true (pure_ProbeTurned x0 x1 x2 O0 O1 O2 small1)
  refine (wholeV_models hM ok_law22_ProbeTurned hG0 5 (sto W) W _ [_, _, _] _ _ (Cs.cons V0 (Cs.cons V1 (Cs.cons V2 Cs.nil))) (fun a u h => sto_imm h) hG hF.eq).mono ?_
  rintro e W' ⟨u, S', plr, rfl, hS, hnew, hWR, hR⟩
  obtain rfl := hR.v_inv
  have bel := hWR.below
  exact ⟨_, rfl, _, _, _, [], _, [], hW', trodAll_mk1 (shut_bool Try.underlying4 _), (trodAll_cons_mk (Below.trod laidOut (by kernel_rfl) (of_decide_eq_true (by kernel_rfl)) k0 bel lt0) (trodAll_cons_mk (Below.trod laidOut (by kernel_rfl) (of_decide_eq_true (by kernel_rfl)) k1 bel lt1) (trodAll_cons_mk (Below.trod laidOut (by kernel_rfl) (of_decide_eq_true (by kernel_rfl)) k2 bel lt2) trodAll_mk0))), rfl, bel.frame _, fun h => by cases h⟩
theorem over : Rows.probeTurnedUptoRow.holds Try.pinned (Rows.OpenSpec.upto Rows.probeTurnedSpec) :=
  OpenClaim.holds_of_cond 5 Try.f5 rfl rfl rfl rfl rfl rfl rfl ⟨rfl, rfl, rfl, rfl, rfl⟩ rfl rfl rfl rfl rfl (by kernel_rfl) Try.func5 (by kernel_rfl)
    (of_decide_eq_true (by kernel_rfl)) (by unfold Func.isWrapper; first | (rw [if_pos (by decide +kernel)]; kernel_rfl) | (rw [if_neg (by decide +kernel)]; exact ⟨rfl, rfl⟩))
    (fun os started H enc _ F0 => lifted os started H enc F0)
theorem proved : Rows.ProbeTurnedUptoSaid := over
#print axioms proved
end Go.Proofs.Ytkifbcjmmkbilaa.probeTurned
namespace Go.Proofs.Ytkifbcjmmkbilaa
/-- The statement, under a short name, for the claim. -/
theorem probeTurned_holds : Rows.ProbeTurnedUptoSaid := probeTurned.proved
end Go.Proofs.Ytkifbcjmmkbilaa
