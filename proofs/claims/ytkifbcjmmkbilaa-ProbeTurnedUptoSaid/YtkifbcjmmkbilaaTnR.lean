/- A row of probe.Turns$1 that draws its order: stores and loads of unlike boxes. -/
import Derived.Test.YtkifbcjmmkbilaaProbe
set_option linter.unusedVariables false
set_option linter.unusedSimpArgs false
namespace Go.Proofs.Ytkifbcjmmkbilaa.Tn
open Go Go.RowKit Go.Shelf Go.Open Go.Proofs.YtkifbcjmmkbilaaW.PrintWords Go.Proofs.Ytkifbcjmmkbilaa.Prb
attribute [local go_sem] Oper.semAt_some
noncomputable def fnd : Code → Code
  | .seq a b => match fnd a with
    | .skip => fnd b
    | c => c
  | .block _ c => fnd c
  | .loop c => fnd c
  | .cond _ _ _ => .skip
  | .rangeFunc _ _ _ b => fnd b
  | .region id ops true => .region id ops true
  | _ => .skip
noncomputable def reg7C : Code := match Try.f23.body with
  | some c => fnd c
  | none => .skip
theorem hM : Try.prog.follows .mixedOrders = true := by kernel_rfl
theorem upon_round {l n : Nat} {P : Program} {o : Oper} {a : Act} {next : Act → World → Prop} {Q : Exit → Act → World → Prop} {r : Result Next} (h : o.uponIn Fence.wide n P a next Q r) : o.uponIn (Fence.wide.inRound l) n P a next Q r := h
theorem wpOp_round {l n : Nat} {P : Program} {ops : Array Oper} {Q : Exit → Act → World → Prop} (hd : ∀ (j : Nat) (o : Oper), ops[j]? = some o → ∀ c, o.op ≠ .defer c) {i : Nat} {K : Act → World → Prop} {a : Act} {w : World} (h : wpOpIn Fence.wide n P ops Q i K a w) : wpOpIn (Fence.wide.inRound l) n P ops Q i K a w := by
  unfold wpOpIn at h ⊢
  split
  · rename_i ho
    simpa only [ho] using h
  · rename_i o ho
    simp only [ho] at h
    split
    · rename_i hw
      rw [if_pos hw] at h
      refine ⟨h.1, ?_⟩
      have e : o.semAt (Fence.wide.inRound l).round a.eval = o.semAt Fence.wide.round a.eval := (Oper.semAt_eq _ _ _ (hd i o ho)).trans (Oper.semAt_eq _ _ _ (hd i o ho)).symm
      rw [e]
      exact upon_round h.2
    · rename_i hw
      simp only [hw, if_false, Bool.false_eq_true] at h
      exact h
theorem wpAny_round {l n : Nat} {P : Program} {md : Region.Mode} {ops : Array Oper} {Q : Exit → Act → World → Prop} (hd : ∀ (j : Nat) (o : Oper), ops[j]? = some o → ∀ c, o.op ≠ .defer c) : ∀ (fuel : Nat) (listed : Array Bool) (a : Act) (w : World), wpAnyIn Fence.wide n P md ops Q fuel listed a w → wpAnyIn (Fence.wide.inRound l) n P md ops Q fuel listed a w
  | 0, _, _, _, h => h
  | fuel + 1, listed, a, w, h => ⟨h.1, fun i hi => wpOp_round hd (wpOpIn_mono (fun a w => wpAny_round hd fuel _ a w) (h.2 i hi))⟩
def noDefer (ops : Array Oper) : Bool := ops.toList.all fun o => match o.op with | .defer _ => false | _ => true
theorem noDefer_spec {ops : Array Oper} (h : noDefer ops = true) : ∀ (j : Nat) (o : Oper), ops[j]? = some o → ∀ c, o.op ≠ .defer c := fun j o ho c hc => by
  have h1 : o ∈ ops.toList := by
    rw [← Array.getElem?_toList] at ho
    exact List.mem_of_getElem? ho
  have := List.all_eq_true.1 h o h1
  rw [hc] at this
  cases this
set_option maxRecDepth 100000 in
set_option maxHeartbeats 40000000 in
theorem reg7 {l dp : Nat} {QQ : Exit → Act → World → Prop} {V1 : World} {TB Q N : Nat} {r1 r2 : Int} {r3 s3 : Bool} {o0 o1 o2 : Value} {x0 x1 x2 x3 x4 x5 x7 x10 x11 x12 x13 x14 x15 x16 x17 x18 x19 x20 x21 x22 x33 x34 x35 x36 x37 x38 x39 x40 x41 x42 x43 x44 : Value}
    (c0 : V1.cell? ⟨Q, 0, none⟩ = some (.int .i64 r1)) (c1 : V1.cell? ⟨Q, 1, none⟩ = some (.int .i64 r2)) (c2 : V1.cell? ⟨N, 2, none⟩ = some (.bool s3))
    (t0 : V1.cell? ⟨TB, 0, none⟩ = some o0) (t1 : V1.cell? ⟨TB, 1, none⟩ = some o1) (t2 : V1.cell? ⟨TB, 2, none⟩ = some o2)
    (f0 : V1.frozen? ⟨TB, 0, none⟩ = false) (f1 : V1.frozen? ⟨TB, 1, none⟩ = false) (f2 : V1.frozen? ⟨TB, 2, none⟩ = false)
    
    (h : QQ .normal { tmps := #[x0, x1, x2, x3, x4, x5, .pointer (some ⟨N, 0, none⟩), x7, .pointer (some ⟨Q, 0, none⟩), .pointer (some ⟨TB, 0, none⟩), x10, x11, x12, x13, x14, x15, x16, x17, x18, x19, x20, x21, x22, .pointer (some ⟨Q, 0, none⟩), .int .i64 r1, .pointer (some ⟨Q, 1, none⟩), .int .i64 r2, .pointer (some ⟨N, 2, none⟩), .bool s3, .bool (!s3), .pointer (some ⟨TB, 0, none⟩), .pointer (some ⟨TB, 1, none⟩), .pointer (some ⟨TB, 2, none⟩), x33, x34, x35, x36, x37, x38, x39, x40, x41, x42, x43, x44], defers := [] } (((V1.setCell ⟨TB, 0, none⟩ (.int .i64 r1)).setCell ⟨TB, 1, none⟩ (.int .i64 r2)).setCell ⟨TB, 2, none⟩ (.bool (!s3))).drew)
    (hQP : ∀ c a w, ¬ QQ (.panic c) a w) (n1 : TB ≠ Q) (n2 : TB ≠ N) (n3 : Q ≠ TB) (n4 : N ≠ TB) : reg7C.wpIn (Fence.wide.inRound l) dp Try.prog QQ { tmps := #[x0, x1, x2, x3, x4, x5, .pointer (some ⟨N, 0, none⟩), x7, .pointer (some ⟨Q, 0, none⟩), .pointer (some ⟨TB, 0, none⟩), x10, x11, x12, x13, x14, x15, x16, x17, x18, x19, x20, x21, x22, undef, undef, undef, undef, undef, undef, undef, undef, undef, undef, x33, x34, x35, x36, x37, x38, x39, x40, x41, x42, x43, x44], defers := [] } V1 := by
  simp only [reg7C, Try.f23, fnd]
  refine wpIn_region_any hM (wpAny_round (noDefer_spec (by kernel_rfl)) _ _ _ _ ?_)
  change wpAnyIn _ _ _ _ _ _ _ _ _ (World.drew _)
  refine wpAnyIn_take (i := 0) (v := ?_) rfl rfl (by kernel_rfl) (by kernel_rfl) (by kernel_rfl) (fun _ _ _ h => (hQP _ _ _ h).elim) ⟨Or.inl ⟨by rfl, ?_⟩, fun _ => rfl⟩ ?_
  case refine_2 => (intro w; go_simp; try with_reducible rfl)
  refine wpAnyIn_take (i := 2) (v := ?_) rfl rfl (by kernel_rfl) (by kernel_rfl) (by kernel_rfl) (fun _ _ _ h => (hQP _ _ _ h).elim) ⟨Or.inl ⟨by rfl, ?_⟩, fun _ => rfl⟩ ?_
  case refine_2 => (intro w; go_simp; try with_reducible rfl)
  refine wpAnyIn_take (i := 4) (v := ?_) rfl rfl (by kernel_rfl) (by kernel_rfl) (by kernel_rfl) (fun _ _ _ h => (hQP _ _ _ h).elim) ⟨Or.inl ⟨by rfl, ?_⟩, fun _ => rfl⟩ ?_
  case refine_2 => (intro w; go_simp; try with_reducible rfl)
  refine wpAnyIn_ready (rs := [1, 3, 5]) (by kernel_rfl) (by simp) ?_
  refine AllReadyIn.cons rfl (fun K hK => ?_) ?_
  · go_simp
    refine hK _ _ ?_
    clear hK K
    refine wpAnyIn_take (i := 7) (v := ?_) rfl rfl (by kernel_rfl) (by kernel_rfl) (by kernel_rfl) (fun _ _ _ h => (hQP _ _ _ h).elim) ⟨Or.inl ⟨by rfl, ?_⟩, fun _ => rfl⟩ ?_
    case refine_2 => (intro w; go_simp; try with_reducible rfl)
    refine wpAnyIn_ready (rs := [3, 5, 8]) (by kernel_rfl) (by simp) ?_
    refine AllReadyIn.cons rfl (fun K hK => ?_) ?_
    · go_simp
      refine hK _ _ ?_
      clear hK K
      refine wpAnyIn_ready (rs := [5, 8]) (by kernel_rfl) (by simp) ?_
      refine AllReadyIn.cons rfl (fun K hK => ?_) ?_
      · go_simp
        refine hK _ _ ?_
        clear hK K
        refine wpAnyIn_take (i := 6) (v := ?_) rfl rfl (by kernel_rfl) (by kernel_rfl) (by kernel_rfl) (fun _ _ _ h => (hQP _ _ _ h).elim) ⟨Or.inl ⟨by rfl, ?_⟩, fun _ => rfl⟩ ?_
        case refine_2 => (intro w; go_simp; try with_reducible rfl)
        refine wpAnyIn_ready (rs := [8]) (by kernel_rfl) (by simp) ?_
        refine AllReadyIn.cons rfl (fun K hK => ?_) ?_
        · go_simp
          refine hK _ _ ?_
          clear hK K
          refine wpAnyIn_take (i := 9) (v := ?_) rfl rfl (by kernel_rfl) (by kernel_rfl) (by kernel_rfl) (fun _ _ _ h => (hQP _ _ _ h).elim) ⟨Or.inl ⟨by rfl, ?_⟩, fun _ => rfl⟩ ?_
          case refine_2 => (intro w; go_simp; try with_reducible rfl)
          refine wpAnyIn_ready (rs := [10]) (by kernel_rfl) (by simp) ?_
          refine AllReadyIn.cons rfl (fun K hK => ?_) ?_
          · go_simp
            refine hK _ _ ?_
            clear hK K
            refine wpAnyIn_take (i := 11) (v := ?_) rfl rfl (by kernel_rfl) (by kernel_rfl) (by kernel_rfl) (fun _ _ _ h => (hQP _ _ _ h).elim) ⟨Or.inl ⟨by rfl, ?_⟩, fun _ => rfl⟩ ?_
            case refine_2 => (intro w; go_simp; try with_reducible rfl)
            refine wpAnyIn_ready (rs := [12]) (by kernel_rfl) (by simp) ?_
            refine AllReadyIn.cons rfl (fun K hK => ?_) ?_
            · go_simp
              refine hK _ _ ?_
              clear hK K
              refine wpAnyIn_done (by kernel_rfl) ?_ _
              exact h
            exact AllReadyIn.nil
          exact AllReadyIn.nil
        exact AllReadyIn.nil
      refine AllReadyIn.cons rfl (fun K hK => ?_) ?_
      · go_simp
        refine hK _ _ ?_
        clear hK K
        refine wpAnyIn_take (i := 9) (v := ?_) rfl rfl (by kernel_rfl) (by kernel_rfl) (by kernel_rfl) (fun _ _ _ h => (hQP _ _ _ h).elim) ⟨Or.inl ⟨by rfl, ?_⟩, fun _ => rfl⟩ ?_
        case refine_2 => (intro w; go_simp; try with_reducible rfl)
        refine wpAnyIn_ready (rs := [5, 10]) (by kernel_rfl) (by simp) ?_
        refine AllReadyIn.cons rfl (fun K hK => ?_) ?_
        · go_simp
          refine hK _ _ ?_
          clear hK K
          refine wpAnyIn_take (i := 6) (v := ?_) rfl rfl (by kernel_rfl) (by kernel_rfl) (by kernel_rfl) (fun _ _ _ h => (hQP _ _ _ h).elim) ⟨Or.inl ⟨by rfl, ?_⟩, fun _ => rfl⟩ ?_
          case refine_2 => (intro w; go_simp; try with_reducible rfl)
          refine wpAnyIn_ready (rs := [10]) (by kernel_rfl) (by simp) ?_
          refine AllReadyIn.cons rfl (fun K hK => ?_) ?_
          · go_simp
            refine hK _ _ ?_
            clear hK K
            refine wpAnyIn_take (i := 11) (v := ?_) rfl rfl (by kernel_rfl) (by kernel_rfl) (by kernel_rfl) (fun _ _ _ h => (hQP _ _ _ h).elim) ⟨Or.inl ⟨by rfl, ?_⟩, fun _ => rfl⟩ ?_
            case refine_2 => (intro w; go_simp; try with_reducible rfl)
            refine wpAnyIn_ready (rs := [12]) (by kernel_rfl) (by simp) ?_
            refine AllReadyIn.cons rfl (fun K hK => ?_) ?_
            · go_simp
              refine hK _ _ ?_
              clear hK K
              refine wpAnyIn_done (by kernel_rfl) ?_ _
              exact h
            exact AllReadyIn.nil
          exact AllReadyIn.nil
        refine AllReadyIn.cons rfl (fun K hK => ?_) ?_
        · go_simp
          refine hK _ _ ?_
          clear hK K
          refine wpAnyIn_ready (rs := [5]) (by kernel_rfl) (by simp) ?_
          refine AllReadyIn.cons rfl (fun K hK => ?_) ?_
          · go_simp
            refine hK _ _ ?_
            clear hK K
            refine wpAnyIn_take (i := 6) (v := ?_) rfl rfl (by kernel_rfl) (by kernel_rfl) (by kernel_rfl) (fun _ _ _ h => (hQP _ _ _ h).elim) ⟨Or.inl ⟨by rfl, ?_⟩, fun _ => rfl⟩ ?_
            case refine_2 => (intro w; go_simp; try with_reducible rfl)
            refine wpAnyIn_take (i := 11) (v := ?_) rfl rfl (by kernel_rfl) (by kernel_rfl) (by kernel_rfl) (fun _ _ _ h => (hQP _ _ _ h).elim) ⟨Or.inl ⟨by rfl, ?_⟩, fun _ => rfl⟩ ?_
            case refine_2 => (intro w; go_simp; try with_reducible rfl)
            refine wpAnyIn_ready (rs := [12]) (by kernel_rfl) (by simp) ?_
            refine AllReadyIn.cons rfl (fun K hK => ?_) ?_
            · go_simp
              refine hK _ _ ?_
              clear hK K
              refine wpAnyIn_done (by kernel_rfl) ?_ _
              exact h
            exact AllReadyIn.nil
          exact AllReadyIn.nil
        exact AllReadyIn.nil
      exact AllReadyIn.nil
    refine AllReadyIn.cons rfl (fun K hK => ?_) ?_
    · go_simp
      refine hK _ _ ?_
      clear hK K
      refine wpAnyIn_take (i := 6) (v := ?_) rfl rfl (by kernel_rfl) (by kernel_rfl) (by kernel_rfl) (fun _ _ _ h => (hQP _ _ _ h).elim) ⟨Or.inl ⟨by rfl, ?_⟩, fun _ => rfl⟩ ?_
      case refine_2 => (intro w; go_simp; try with_reducible rfl)
      refine wpAnyIn_ready (rs := [3, 8]) (by kernel_rfl) (by simp) ?_
      refine AllReadyIn.cons rfl (fun K hK => ?_) ?_
      · go_simp
        refine hK _ _ ?_
        clear hK K
        refine wpAnyIn_ready (rs := [8]) (by kernel_rfl) (by simp) ?_
        refine AllReadyIn.cons rfl (fun K hK => ?_) ?_
        · go_simp
          refine hK _ _ ?_
          clear hK K
          refine wpAnyIn_take (i := 9) (v := ?_) rfl rfl (by kernel_rfl) (by kernel_rfl) (by kernel_rfl) (fun _ _ _ h => (hQP _ _ _ h).elim) ⟨Or.inl ⟨by rfl, ?_⟩, fun _ => rfl⟩ ?_
          case refine_2 => (intro w; go_simp; try with_reducible rfl)
          refine wpAnyIn_ready (rs := [10]) (by kernel_rfl) (by simp) ?_
          refine AllReadyIn.cons rfl (fun K hK => ?_) ?_
          · go_simp
            refine hK _ _ ?_
            clear hK K
            refine wpAnyIn_take (i := 11) (v := ?_) rfl rfl (by kernel_rfl) (by kernel_rfl) (by kernel_rfl) (fun _ _ _ h => (hQP _ _ _ h).elim) ⟨Or.inl ⟨by rfl, ?_⟩, fun _ => rfl⟩ ?_
            case refine_2 => (intro w; go_simp; try with_reducible rfl)
            refine wpAnyIn_ready (rs := [12]) (by kernel_rfl) (by simp) ?_
            refine AllReadyIn.cons rfl (fun K hK => ?_) ?_
            · go_simp
              refine hK _ _ ?_
              clear hK K
              refine wpAnyIn_done (by kernel_rfl) ?_ _
              exact h
            exact AllReadyIn.nil
          exact AllReadyIn.nil
        exact AllReadyIn.nil
      refine AllReadyIn.cons rfl (fun K hK => ?_) ?_
      · go_simp
        refine hK _ _ ?_
        clear hK K
        refine wpAnyIn_ready (rs := [3]) (by kernel_rfl) (by simp) ?_
        refine AllReadyIn.cons rfl (fun K hK => ?_) ?_
        · go_simp
          refine hK _ _ ?_
          clear hK K
          refine wpAnyIn_take (i := 9) (v := ?_) rfl rfl (by kernel_rfl) (by kernel_rfl) (by kernel_rfl) (fun _ _ _ h => (hQP _ _ _ h).elim) ⟨Or.inl ⟨by rfl, ?_⟩, fun _ => rfl⟩ ?_
          case refine_2 => (intro w; go_simp; try with_reducible rfl)
          refine wpAnyIn_ready (rs := [10]) (by kernel_rfl) (by simp) ?_
          refine AllReadyIn.cons rfl (fun K hK => ?_) ?_
          · go_simp
            refine hK _ _ ?_
            clear hK K
            refine wpAnyIn_take (i := 11) (v := ?_) rfl rfl (by kernel_rfl) (by kernel_rfl) (by kernel_rfl) (fun _ _ _ h => (hQP _ _ _ h).elim) ⟨Or.inl ⟨by rfl, ?_⟩, fun _ => rfl⟩ ?_
            case refine_2 => (intro w; go_simp; try with_reducible rfl)
            refine wpAnyIn_ready (rs := [12]) (by kernel_rfl) (by simp) ?_
            refine AllReadyIn.cons rfl (fun K hK => ?_) ?_
            · go_simp
              refine hK _ _ ?_
              clear hK K
              refine wpAnyIn_done (by kernel_rfl) ?_ _
              exact h
            exact AllReadyIn.nil
          exact AllReadyIn.nil
        exact AllReadyIn.nil
      exact AllReadyIn.nil
    refine AllReadyIn.cons rfl (fun K hK => ?_) ?_
    · go_simp
      refine hK _ _ ?_
      clear hK K
      refine wpAnyIn_ready (rs := [3, 5]) (by kernel_rfl) (by simp) ?_
      refine AllReadyIn.cons rfl (fun K hK => ?_) ?_
      · go_simp
        refine hK _ _ ?_
        clear hK K
        refine wpAnyIn_take (i := 9) (v := ?_) rfl rfl (by kernel_rfl) (by kernel_rfl) (by kernel_rfl) (fun _ _ _ h => (hQP _ _ _ h).elim) ⟨Or.inl ⟨by rfl, ?_⟩, fun _ => rfl⟩ ?_
        case refine_2 => (intro w; go_simp; try with_reducible rfl)
        refine wpAnyIn_ready (rs := [5, 10]) (by kernel_rfl) (by simp) ?_
        refine AllReadyIn.cons rfl (fun K hK => ?_) ?_
        · go_simp
          refine hK _ _ ?_
          clear hK K
          refine wpAnyIn_take (i := 6) (v := ?_) rfl rfl (by kernel_rfl) (by kernel_rfl) (by kernel_rfl) (fun _ _ _ h => (hQP _ _ _ h).elim) ⟨Or.inl ⟨by rfl, ?_⟩, fun _ => rfl⟩ ?_
          case refine_2 => (intro w; go_simp; try with_reducible rfl)
          refine wpAnyIn_ready (rs := [10]) (by kernel_rfl) (by simp) ?_
          refine AllReadyIn.cons rfl (fun K hK => ?_) ?_
          · go_simp
            refine hK _ _ ?_
            clear hK K
            refine wpAnyIn_take (i := 11) (v := ?_) rfl rfl (by kernel_rfl) (by kernel_rfl) (by kernel_rfl) (fun _ _ _ h => (hQP _ _ _ h).elim) ⟨Or.inl ⟨by rfl, ?_⟩, fun _ => rfl⟩ ?_
            case refine_2 => (intro w; go_simp; try with_reducible rfl)
            refine wpAnyIn_ready (rs := [12]) (by kernel_rfl) (by simp) ?_
            refine AllReadyIn.cons rfl (fun K hK => ?_) ?_
            · go_simp
              refine hK _ _ ?_
              clear hK K
              refine wpAnyIn_done (by kernel_rfl) ?_ _
              exact h
            exact AllReadyIn.nil
          exact AllReadyIn.nil
        refine AllReadyIn.cons rfl (fun K hK => ?_) ?_
        · go_simp
          refine hK _ _ ?_
          clear hK K
          refine wpAnyIn_ready (rs := [5]) (by kernel_rfl) (by simp) ?_
          refine AllReadyIn.cons rfl (fun K hK => ?_) ?_
          · go_simp
            refine hK _ _ ?_
            clear hK K
            refine wpAnyIn_take (i := 6) (v := ?_) rfl rfl (by kernel_rfl) (by kernel_rfl) (by kernel_rfl) (fun _ _ _ h => (hQP _ _ _ h).elim) ⟨Or.inl ⟨by rfl, ?_⟩, fun _ => rfl⟩ ?_
            case refine_2 => (intro w; go_simp; try with_reducible rfl)
            refine wpAnyIn_take (i := 11) (v := ?_) rfl rfl (by kernel_rfl) (by kernel_rfl) (by kernel_rfl) (fun _ _ _ h => (hQP _ _ _ h).elim) ⟨Or.inl ⟨by rfl, ?_⟩, fun _ => rfl⟩ ?_
            case refine_2 => (intro w; go_simp; try with_reducible rfl)
            refine wpAnyIn_ready (rs := [12]) (by kernel_rfl) (by simp) ?_
            refine AllReadyIn.cons rfl (fun K hK => ?_) ?_
            · go_simp
              refine hK _ _ ?_
              clear hK K
              refine wpAnyIn_done (by kernel_rfl) ?_ _
              exact h
            exact AllReadyIn.nil
          exact AllReadyIn.nil
        exact AllReadyIn.nil
      refine AllReadyIn.cons rfl (fun K hK => ?_) ?_
      · go_simp
        refine hK _ _ ?_
        clear hK K
        refine wpAnyIn_take (i := 6) (v := ?_) rfl rfl (by kernel_rfl) (by kernel_rfl) (by kernel_rfl) (fun _ _ _ h => (hQP _ _ _ h).elim) ⟨Or.inl ⟨by rfl, ?_⟩, fun _ => rfl⟩ ?_
        case refine_2 => (intro w; go_simp; try with_reducible rfl)
        refine wpAnyIn_ready (rs := [3]) (by kernel_rfl) (by simp) ?_
        refine AllReadyIn.cons rfl (fun K hK => ?_) ?_
        · go_simp
          refine hK _ _ ?_
          clear hK K
          refine wpAnyIn_take (i := 9) (v := ?_) rfl rfl (by kernel_rfl) (by kernel_rfl) (by kernel_rfl) (fun _ _ _ h => (hQP _ _ _ h).elim) ⟨Or.inl ⟨by rfl, ?_⟩, fun _ => rfl⟩ ?_
          case refine_2 => (intro w; go_simp; try with_reducible rfl)
          refine wpAnyIn_ready (rs := [10]) (by kernel_rfl) (by simp) ?_
          refine AllReadyIn.cons rfl (fun K hK => ?_) ?_
          · go_simp
            refine hK _ _ ?_
            clear hK K
            refine wpAnyIn_take (i := 11) (v := ?_) rfl rfl (by kernel_rfl) (by kernel_rfl) (by kernel_rfl) (fun _ _ _ h => (hQP _ _ _ h).elim) ⟨Or.inl ⟨by rfl, ?_⟩, fun _ => rfl⟩ ?_
            case refine_2 => (intro w; go_simp; try with_reducible rfl)
            refine wpAnyIn_ready (rs := [12]) (by kernel_rfl) (by simp) ?_
            refine AllReadyIn.cons rfl (fun K hK => ?_) ?_
            · go_simp
              refine hK _ _ ?_
              clear hK K
              refine wpAnyIn_done (by kernel_rfl) ?_ _
              exact h
            exact AllReadyIn.nil
          exact AllReadyIn.nil
        exact AllReadyIn.nil
      exact AllReadyIn.nil
    exact AllReadyIn.nil
  refine AllReadyIn.cons rfl (fun K hK => ?_) ?_
  · go_simp
    refine hK _ _ ?_
    clear hK K
    refine wpAnyIn_ready (rs := [1, 5]) (by kernel_rfl) (by simp) ?_
    refine AllReadyIn.cons rfl (fun K hK => ?_) ?_
    · go_simp
      refine hK _ _ ?_
      clear hK K
      refine wpAnyIn_take (i := 7) (v := ?_) rfl rfl (by kernel_rfl) (by kernel_rfl) (by kernel_rfl) (fun _ _ _ h => (hQP _ _ _ h).elim) ⟨Or.inl ⟨by rfl, ?_⟩, fun _ => rfl⟩ ?_
      case refine_2 => (intro w; go_simp; try with_reducible rfl)
      refine wpAnyIn_ready (rs := [5, 8]) (by kernel_rfl) (by simp) ?_
      refine AllReadyIn.cons rfl (fun K hK => ?_) ?_
      · go_simp
        refine hK _ _ ?_
        clear hK K
        refine wpAnyIn_take (i := 6) (v := ?_) rfl rfl (by kernel_rfl) (by kernel_rfl) (by kernel_rfl) (fun _ _ _ h => (hQP _ _ _ h).elim) ⟨Or.inl ⟨by rfl, ?_⟩, fun _ => rfl⟩ ?_
        case refine_2 => (intro w; go_simp; try with_reducible rfl)
        refine wpAnyIn_ready (rs := [8]) (by kernel_rfl) (by simp) ?_
        refine AllReadyIn.cons rfl (fun K hK => ?_) ?_
        · go_simp
          refine hK _ _ ?_
          clear hK K
          refine wpAnyIn_take (i := 9) (v := ?_) rfl rfl (by kernel_rfl) (by kernel_rfl) (by kernel_rfl) (fun _ _ _ h => (hQP _ _ _ h).elim) ⟨Or.inl ⟨by rfl, ?_⟩, fun _ => rfl⟩ ?_
          case refine_2 => (intro w; go_simp; try with_reducible rfl)
          refine wpAnyIn_ready (rs := [10]) (by kernel_rfl) (by simp) ?_
          refine AllReadyIn.cons rfl (fun K hK => ?_) ?_
          · go_simp
            refine hK _ _ ?_
            clear hK K
            refine wpAnyIn_take (i := 11) (v := ?_) rfl rfl (by kernel_rfl) (by kernel_rfl) (by kernel_rfl) (fun _ _ _ h => (hQP _ _ _ h).elim) ⟨Or.inl ⟨by rfl, ?_⟩, fun _ => rfl⟩ ?_
            case refine_2 => (intro w; go_simp; try with_reducible rfl)
            refine wpAnyIn_ready (rs := [12]) (by kernel_rfl) (by simp) ?_
            refine AllReadyIn.cons rfl (fun K hK => ?_) ?_
            · go_simp
              refine hK _ _ ?_
              clear hK K
              refine wpAnyIn_done (by kernel_rfl) ?_ _
              exact h
            exact AllReadyIn.nil
          exact AllReadyIn.nil
        exact AllReadyIn.nil
      refine AllReadyIn.cons rfl (fun K hK => ?_) ?_
      · go_simp
        refine hK _ _ ?_
        clear hK K
        refine wpAnyIn_take (i := 9) (v := ?_) rfl rfl (by kernel_rfl) (by kernel_rfl) (by kernel_rfl) (fun _ _ _ h => (hQP _ _ _ h).elim) ⟨Or.inl ⟨by rfl, ?_⟩, fun _ => rfl⟩ ?_
        case refine_2 => (intro w; go_simp; try with_reducible rfl)
        refine wpAnyIn_ready (rs := [5, 10]) (by kernel_rfl) (by simp) ?_
        refine AllReadyIn.cons rfl (fun K hK => ?_) ?_
        · go_simp
          refine hK _ _ ?_
          clear hK K
          refine wpAnyIn_take (i := 6) (v := ?_) rfl rfl (by kernel_rfl) (by kernel_rfl) (by kernel_rfl) (fun _ _ _ h => (hQP _ _ _ h).elim) ⟨Or.inl ⟨by rfl, ?_⟩, fun _ => rfl⟩ ?_
          case refine_2 => (intro w; go_simp; try with_reducible rfl)
          refine wpAnyIn_ready (rs := [10]) (by kernel_rfl) (by simp) ?_
          refine AllReadyIn.cons rfl (fun K hK => ?_) ?_
          · go_simp
            refine hK _ _ ?_
            clear hK K
            refine wpAnyIn_take (i := 11) (v := ?_) rfl rfl (by kernel_rfl) (by kernel_rfl) (by kernel_rfl) (fun _ _ _ h => (hQP _ _ _ h).elim) ⟨Or.inl ⟨by rfl, ?_⟩, fun _ => rfl⟩ ?_
            case refine_2 => (intro w; go_simp; try with_reducible rfl)
            refine wpAnyIn_ready (rs := [12]) (by kernel_rfl) (by simp) ?_
            refine AllReadyIn.cons rfl (fun K hK => ?_) ?_
            · go_simp
              refine hK _ _ ?_
              clear hK K
              refine wpAnyIn_done (by kernel_rfl) ?_ _
              exact h
            exact AllReadyIn.nil
          exact AllReadyIn.nil
        refine AllReadyIn.cons rfl (fun K hK => ?_) ?_
        · go_simp
          refine hK _ _ ?_
          clear hK K
          refine wpAnyIn_ready (rs := [5]) (by kernel_rfl) (by simp) ?_
          refine AllReadyIn.cons rfl (fun K hK => ?_) ?_
          · go_simp
            refine hK _ _ ?_
            clear hK K
            refine wpAnyIn_take (i := 6) (v := ?_) rfl rfl (by kernel_rfl) (by kernel_rfl) (by kernel_rfl) (fun _ _ _ h => (hQP _ _ _ h).elim) ⟨Or.inl ⟨by rfl, ?_⟩, fun _ => rfl⟩ ?_
            case refine_2 => (intro w; go_simp; try with_reducible rfl)
            refine wpAnyIn_take (i := 11) (v := ?_) rfl rfl (by kernel_rfl) (by kernel_rfl) (by kernel_rfl) (fun _ _ _ h => (hQP _ _ _ h).elim) ⟨Or.inl ⟨by rfl, ?_⟩, fun _ => rfl⟩ ?_
            case refine_2 => (intro w; go_simp; try with_reducible rfl)
            refine wpAnyIn_ready (rs := [12]) (by kernel_rfl) (by simp) ?_
            refine AllReadyIn.cons rfl (fun K hK => ?_) ?_
            · go_simp
              refine hK _ _ ?_
              clear hK K
              refine wpAnyIn_done (by kernel_rfl) ?_ _
              exact h
            exact AllReadyIn.nil
          exact AllReadyIn.nil
        exact AllReadyIn.nil
      exact AllReadyIn.nil
    refine AllReadyIn.cons rfl (fun K hK => ?_) ?_
    · go_simp
      refine hK _ _ ?_
      clear hK K
      refine wpAnyIn_take (i := 6) (v := ?_) rfl rfl (by kernel_rfl) (by kernel_rfl) (by kernel_rfl) (fun _ _ _ h => (hQP _ _ _ h).elim) ⟨Or.inl ⟨by rfl, ?_⟩, fun _ => rfl⟩ ?_
      case refine_2 => (intro w; go_simp; try with_reducible rfl)
      refine wpAnyIn_ready (rs := [1]) (by kernel_rfl) (by simp) ?_
      refine AllReadyIn.cons rfl (fun K hK => ?_) ?_
      · go_simp
        refine hK _ _ ?_
        clear hK K
        refine wpAnyIn_take (i := 7) (v := ?_) rfl rfl (by kernel_rfl) (by kernel_rfl) (by kernel_rfl) (fun _ _ _ h => (hQP _ _ _ h).elim) ⟨Or.inl ⟨by rfl, ?_⟩, fun _ => rfl⟩ ?_
        case refine_2 => (intro w; go_simp; try with_reducible rfl)
        refine wpAnyIn_ready (rs := [8]) (by kernel_rfl) (by simp) ?_
        refine AllReadyIn.cons rfl (fun K hK => ?_) ?_
        · go_simp
          refine hK _ _ ?_
          clear hK K
          refine wpAnyIn_take (i := 9) (v := ?_) rfl rfl (by kernel_rfl) (by kernel_rfl) (by kernel_rfl) (fun _ _ _ h => (hQP _ _ _ h).elim) ⟨Or.inl ⟨by rfl, ?_⟩, fun _ => rfl⟩ ?_
          case refine_2 => (intro w; go_simp; try with_reducible rfl)
          refine wpAnyIn_ready (rs := [10]) (by kernel_rfl) (by simp) ?_
          refine AllReadyIn.cons rfl (fun K hK => ?_) ?_
          · go_simp
            refine hK _ _ ?_
            clear hK K
            refine wpAnyIn_take (i := 11) (v := ?_) rfl rfl (by kernel_rfl) (by kernel_rfl) (by kernel_rfl) (fun _ _ _ h => (hQP _ _ _ h).elim) ⟨Or.inl ⟨by rfl, ?_⟩, fun _ => rfl⟩ ?_
            case refine_2 => (intro w; go_simp; try with_reducible rfl)
            refine wpAnyIn_ready (rs := [12]) (by kernel_rfl) (by simp) ?_
            refine AllReadyIn.cons rfl (fun K hK => ?_) ?_
            · go_simp
              refine hK _ _ ?_
              clear hK K
              refine wpAnyIn_done (by kernel_rfl) ?_ _
              exact h
            exact AllReadyIn.nil
          exact AllReadyIn.nil
        exact AllReadyIn.nil
      exact AllReadyIn.nil
    exact AllReadyIn.nil
  refine AllReadyIn.cons rfl (fun K hK => ?_) ?_
  · go_simp
    refine hK _ _ ?_
    clear hK K
    refine wpAnyIn_take (i := 6) (v := ?_) rfl rfl (by kernel_rfl) (by kernel_rfl) (by kernel_rfl) (fun _ _ _ h => (hQP _ _ _ h).elim) ⟨Or.inl ⟨by rfl, ?_⟩, fun _ => rfl⟩ ?_
    case refine_2 => (intro w; go_simp; try with_reducible rfl)
    refine wpAnyIn_ready (rs := [1, 3]) (by kernel_rfl) (by simp) ?_
    refine AllReadyIn.cons rfl (fun K hK => ?_) ?_
    · go_simp
      refine hK _ _ ?_
      clear hK K
      refine wpAnyIn_take (i := 7) (v := ?_) rfl rfl (by kernel_rfl) (by kernel_rfl) (by kernel_rfl) (fun _ _ _ h => (hQP _ _ _ h).elim) ⟨Or.inl ⟨by rfl, ?_⟩, fun _ => rfl⟩ ?_
      case refine_2 => (intro w; go_simp; try with_reducible rfl)
      refine wpAnyIn_ready (rs := [3, 8]) (by kernel_rfl) (by simp) ?_
      refine AllReadyIn.cons rfl (fun K hK => ?_) ?_
      · go_simp
        refine hK _ _ ?_
        clear hK K
        refine wpAnyIn_ready (rs := [8]) (by kernel_rfl) (by simp) ?_
        refine AllReadyIn.cons rfl (fun K hK => ?_) ?_
        · go_simp
          refine hK _ _ ?_
          clear hK K
          refine wpAnyIn_take (i := 9) (v := ?_) rfl rfl (by kernel_rfl) (by kernel_rfl) (by kernel_rfl) (fun _ _ _ h => (hQP _ _ _ h).elim) ⟨Or.inl ⟨by rfl, ?_⟩, fun _ => rfl⟩ ?_
          case refine_2 => (intro w; go_simp; try with_reducible rfl)
          refine wpAnyIn_ready (rs := [10]) (by kernel_rfl) (by simp) ?_
          refine AllReadyIn.cons rfl (fun K hK => ?_) ?_
          · go_simp
            refine hK _ _ ?_
            clear hK K
            refine wpAnyIn_take (i := 11) (v := ?_) rfl rfl (by kernel_rfl) (by kernel_rfl) (by kernel_rfl) (fun _ _ _ h => (hQP _ _ _ h).elim) ⟨Or.inl ⟨by rfl, ?_⟩, fun _ => rfl⟩ ?_
            case refine_2 => (intro w; go_simp; try with_reducible rfl)
            refine wpAnyIn_ready (rs := [12]) (by kernel_rfl) (by simp) ?_
            refine AllReadyIn.cons rfl (fun K hK => ?_) ?_
            · go_simp
              refine hK _ _ ?_
              clear hK K
              refine wpAnyIn_done (by kernel_rfl) ?_ _
              exact h
            exact AllReadyIn.nil
          exact AllReadyIn.nil
        exact AllReadyIn.nil
      refine AllReadyIn.cons rfl (fun K hK => ?_) ?_
      · go_simp
        refine hK _ _ ?_
        clear hK K
        refine wpAnyIn_ready (rs := [3]) (by kernel_rfl) (by simp) ?_
        refine AllReadyIn.cons rfl (fun K hK => ?_) ?_
        · go_simp
          refine hK _ _ ?_
          clear hK K
          refine wpAnyIn_take (i := 9) (v := ?_) rfl rfl (by kernel_rfl) (by kernel_rfl) (by kernel_rfl) (fun _ _ _ h => (hQP _ _ _ h).elim) ⟨Or.inl ⟨by rfl, ?_⟩, fun _ => rfl⟩ ?_
          case refine_2 => (intro w; go_simp; try with_reducible rfl)
          refine wpAnyIn_ready (rs := [10]) (by kernel_rfl) (by simp) ?_
          refine AllReadyIn.cons rfl (fun K hK => ?_) ?_
          · go_simp
            refine hK _ _ ?_
            clear hK K
            refine wpAnyIn_take (i := 11) (v := ?_) rfl rfl (by kernel_rfl) (by kernel_rfl) (by kernel_rfl) (fun _ _ _ h => (hQP _ _ _ h).elim) ⟨Or.inl ⟨by rfl, ?_⟩, fun _ => rfl⟩ ?_
            case refine_2 => (intro w; go_simp; try with_reducible rfl)
            refine wpAnyIn_ready (rs := [12]) (by kernel_rfl) (by simp) ?_
            refine AllReadyIn.cons rfl (fun K hK => ?_) ?_
            · go_simp
              refine hK _ _ ?_
              clear hK K
              refine wpAnyIn_done (by kernel_rfl) ?_ _
              exact h
            exact AllReadyIn.nil
          exact AllReadyIn.nil
        exact AllReadyIn.nil
      exact AllReadyIn.nil
    refine AllReadyIn.cons rfl (fun K hK => ?_) ?_
    · go_simp
      refine hK _ _ ?_
      clear hK K
      refine wpAnyIn_ready (rs := [1]) (by kernel_rfl) (by simp) ?_
      refine AllReadyIn.cons rfl (fun K hK => ?_) ?_
      · go_simp
        refine hK _ _ ?_
        clear hK K
        refine wpAnyIn_take (i := 7) (v := ?_) rfl rfl (by kernel_rfl) (by kernel_rfl) (by kernel_rfl) (fun _ _ _ h => (hQP _ _ _ h).elim) ⟨Or.inl ⟨by rfl, ?_⟩, fun _ => rfl⟩ ?_
        case refine_2 => (intro w; go_simp; try with_reducible rfl)
        refine wpAnyIn_ready (rs := [8]) (by kernel_rfl) (by simp) ?_
        refine AllReadyIn.cons rfl (fun K hK => ?_) ?_
        · go_simp
          refine hK _ _ ?_
          clear hK K
          refine wpAnyIn_take (i := 9) (v := ?_) rfl rfl (by kernel_rfl) (by kernel_rfl) (by kernel_rfl) (fun _ _ _ h => (hQP _ _ _ h).elim) ⟨Or.inl ⟨by rfl, ?_⟩, fun _ => rfl⟩ ?_
          case refine_2 => (intro w; go_simp; try with_reducible rfl)
          refine wpAnyIn_ready (rs := [10]) (by kernel_rfl) (by simp) ?_
          refine AllReadyIn.cons rfl (fun K hK => ?_) ?_
          · go_simp
            refine hK _ _ ?_
            clear hK K
            refine wpAnyIn_take (i := 11) (v := ?_) rfl rfl (by kernel_rfl) (by kernel_rfl) (by kernel_rfl) (fun _ _ _ h => (hQP _ _ _ h).elim) ⟨Or.inl ⟨by rfl, ?_⟩, fun _ => rfl⟩ ?_
            case refine_2 => (intro w; go_simp; try with_reducible rfl)
            refine wpAnyIn_ready (rs := [12]) (by kernel_rfl) (by simp) ?_
            refine AllReadyIn.cons rfl (fun K hK => ?_) ?_
            · go_simp
              refine hK _ _ ?_
              clear hK K
              refine wpAnyIn_done (by kernel_rfl) ?_ _
              exact h
            exact AllReadyIn.nil
          exact AllReadyIn.nil
        exact AllReadyIn.nil
      exact AllReadyIn.nil
    exact AllReadyIn.nil
  exact AllReadyIn.nil
end Go.Proofs.Ytkifbcjmmkbilaa.Tn
