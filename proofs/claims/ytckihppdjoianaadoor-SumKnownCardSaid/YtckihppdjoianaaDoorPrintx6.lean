/- The functions below as plain Lean functions, each with the proof that the calls come to it; written by a program over the kit's print. -/
import Derived.Test.YtckihppdjoianaaDoorPrintx0
import Derived.Test.YtckihppdjoianaaDoorPrintx1
import Derived.Test.YtckihppdjoianaaDoorPrintx2
import Derived.Test.YtckihppdjoianaaDoorPrintx3
import Derived.Test.YtckihppdjoianaaDoorPrintx4
import Derived.Test.YtckihppdjoianaaDoorPrintx5
namespace Go.Proofs.YtckihppdjoianaaDoor.Print
open Go.RowKit Go.Proofs.YtckihppdjoianaaDoorW.PrintWords Go.Proofs.YtckihppdjoianaaDoorW.PrintLast Go.Proofs.YtckihppdjoianaaDoorW.PrintMore
attribute [local go_sem] max2_int min2_int max_two min_two max_three min_three max_four min_four   -- for this text's walks alone
set_option linter.unusedVariables false
set_option linter.unusedSimpArgs false

/-! ### flotillalaw04_SumKnown: function 4 -/
mutual
def flotillalaw04_SumKnown.l0 : Nat → List Int → List Int → Int → Option (Bool)
  | 0, _, _, _ => none
  | k + 1, x1, x2, x3 => if x3 < 32 then (if x1.length < 140737488355328 then (if x2.length < 140737488355328 then (flotillalaw04_SumKnown.l0 k (x1 ++ [0]) (x2 ++ [255]) (wrap64 (x3 + 1))) else (none)) else (none)) else ((flotillakit_Bytes.f k (⟨#[49, 50, 51, 52]⟩ : ByteArray)).bind fun t160 => ((sum_Of.f k t160).bind fun t163 => ((flotillakit_Bytes.f k (⟨#[53, 54, 55, 56, 57]⟩ : ByteArray)).bind fun t164 => ((sum_Of.f k t164).bind fun t167 => ((sum_Join.f t163 t167 5).bind fun bt168 => ((sum_Join.f 1 2 (-1)).bind fun bt170 => ((flotillalaw04_works.f k).bind fun t172 => (if t172 = true then (if bt168.2.isNone = true then (if bt168.1 = 3808858755 then ((flotillakit_Plain.f bt170.2 1).bind fun t174 => (if t174 = true then ((sum_Of.f k (([0] : List Int))).bind fun t178 => (if t178 = 1383945041 then ((sum_Of.f k x1).bind fun t179 => (if t179 = 2324772522 then ((sum_Of.f k x2).bind fun t180 => (if t180 = 1655221059 then ((flotillakit_Bytes.f k (⟨#[97]⟩ : ByteArray)).bind fun t181 => ((sum_Of.f k t181).bind fun t184 => (flotillalaw04_SumKnown.j1 k x1 x2 (t184 != 3251651376)))) else (flotillalaw04_SumKnown.j1 k x1 x2 true))) else (flotillalaw04_SumKnown.j1 k x1 x2 true))) else (flotillalaw04_SumKnown.j1 k x1 x2 true))) else (flotillalaw04_SumKnown.j1 k x1 x2 true))) else (flotillalaw04_SumKnown.j1 k x1 x2 true)) else (flotillalaw04_SumKnown.j1 k x1 x2 true)) else (flotillalaw04_SumKnown.j1 k x1 x2 true)))))))))
def flotillalaw04_SumKnown.j1 : Nat → List Int → List Int → Bool → Option (Bool)
  | 0, _, _, _ => none
  | k + 1, x1, x2, x66 => if x66 = true then (none) else (flotillalaw04_SumKnown.l1 k x1 x2 0)
def flotillalaw04_SumKnown.l1 : Nat → List Int → List Int → Int → Option (Bool)
  | 0, _, _, _ => none
  | k + 1, x1, x2, x8 => if x8 < 256 then ((flotillalaw04_SumCounted.f k ((((x8) % 4294967296) * 16777216) % 4294967296) (([(x8) % 256, (wrap64 (5 * x8)) % 256] : List Int))).bind fun t188 => (if t188 = true then ((flotillalaw04_SumRows.f k (([(x8) % 256, 1, 2, (x8) % 256] : List Int)) x8).bind fun t192 => (if t192 = true then ((flotillalaw04_SumSeen.f k x2 x8 1).bind fun t193 => (if t193 = true then ((flotillalaw04_SumSeen.f k x1 x8 2147483649).bind fun t194 => (if t194 = true then (flotillalaw04_SumKnown.l1 k x1 x2 (wrap64 (x8 + 1))) else (none))) else (none))) else (none))) else (none))) else (flotillalaw04_SumKnown.l2 k 0)
def flotillalaw04_SumKnown.l2 : Nat → Int → Option (Bool)
  | 0, _ => none
  | k + 1, x9 => if x9 < 63 then (if 0 ≤ x9 then ((flotillalaw04_SumJoined.f k ((x9) % 4294967296) 4294967295 (shl .i64 1 x9)).bind fun t197 => (if t197 = true then ((flotillalaw04_SumJoined.f k 2147483648 ((x9) % 4294967296) (wrap64 ((shl .i64 1 x9) - 1))).bind fun t198 => (if t198 = true then (flotillalaw04_SumKnown.l2 k (wrap64 (x9 + 1))) else (none))) else (none))) else (none)) else ((flotillalaw04_SumJoined.f k 5 7 (-9223372036854775808)).bind fun t195 => (if t195 = true then ((flotillalaw04_SumJoined.f k 5 7 9223372036854775807).bind fun t196 => (some t196)) else (none)))
end
def flotillalaw04_SumKnown.f (k : Nat)  : Option (Bool) := flotillalaw04_SumKnown.l0 k ([] : List Int) ([] : List Int) 0
theorem flotillalaw04_SumKnown.mono_l : ∀ k, (∀ y0 y1 y2, LeO (flotillalaw04_SumKnown.l0 k y0 y1 y2) (flotillalaw04_SumKnown.l0 (k + 1) y0 y1 y2)) ∧ (∀ y0 y1 y2, LeO (flotillalaw04_SumKnown.j1 k y0 y1 y2) (flotillalaw04_SumKnown.j1 (k + 1) y0 y1 y2)) ∧ (∀ y0 y1 y2, LeO (flotillalaw04_SumKnown.l1 k y0 y1 y2) (flotillalaw04_SumKnown.l1 (k + 1) y0 y1 y2)) ∧ (∀ y0, LeO (flotillalaw04_SumKnown.l2 k y0) (flotillalaw04_SumKnown.l2 (k + 1) y0))
  | 0 => ⟨fun _ _ _ r h => by simp [flotillalaw04_SumKnown.l0] at h, fun _ _ _ r h => by simp [flotillalaw04_SumKnown.j1] at h, fun _ _ _ r h => by simp [flotillalaw04_SumKnown.l1] at h, fun _ r h => by simp [flotillalaw04_SumKnown.l2] at h⟩
  | k + 1 => by
    obtain ⟨ih0, ih1, ih2, ih3⟩ := flotillalaw04_SumKnown.mono_l k
    refine ⟨?_, ?_, ?_, ?_⟩
    · intro y0 y1 y2
      unfold flotillalaw04_SumKnown.l0
      repeat' first
      | (with_reducible exact ih0 _ _ _)
      | (with_reducible exact ih1 _ _ _)
      | (with_reducible exact ih2 _ _ _)
      | (with_reducible exact ih3 _)
      | (with_reducible exact flotillakit_Bytes.mono _ _)
      | (with_reducible exact flotillalaw04_SumCounted.mono _ _ _)
      | (with_reducible exact flotillalaw04_SumJoined.mono _ _ _ _)
      | (with_reducible exact flotillalaw04_SumRows.mono _ _ _)
      | (with_reducible exact flotillalaw04_SumSeen.mono _ _ _ _)
      | (with_reducible exact flotillalaw04_works.mono _)
      | (with_reducible exact sum_Of.mono _ _)
      | (with_reducible exact LeO.refl _)
      | (with_reducible exact LeO.none _)
      | (with_reducible refine LeO.ite ?_ ?_)
      | (with_reducible refine LeO.bind ?_ (fun _ => ?_))
      | exact ih0 _ _ _
      | exact ih1 _ _ _
      | exact ih2 _ _ _
      | exact ih3 _
      | exact flotillakit_Bytes.mono _ _
      | exact flotillalaw04_SumCounted.mono _ _ _
      | exact flotillalaw04_SumJoined.mono _ _ _ _
      | exact flotillalaw04_SumRows.mono _ _ _
      | exact flotillalaw04_SumSeen.mono _ _ _ _
      | exact flotillalaw04_works.mono _
      | exact sum_Of.mono _ _
      | exact LeO.none _
      | refine LeO.ite ?_ ?_
      | refine LeO.bind ?_ (fun _ => ?_)
    · intro y0 y1 y2
      unfold flotillalaw04_SumKnown.j1
      repeat' first
      | (with_reducible exact ih0 _ _ _)
      | (with_reducible exact ih1 _ _ _)
      | (with_reducible exact ih2 _ _ _)
      | (with_reducible exact ih3 _)
      | (with_reducible exact flotillakit_Bytes.mono _ _)
      | (with_reducible exact flotillalaw04_SumCounted.mono _ _ _)
      | (with_reducible exact flotillalaw04_SumJoined.mono _ _ _ _)
      | (with_reducible exact flotillalaw04_SumRows.mono _ _ _)
      | (with_reducible exact flotillalaw04_SumSeen.mono _ _ _ _)
      | (with_reducible exact flotillalaw04_works.mono _)
      | (with_reducible exact sum_Of.mono _ _)
      | (with_reducible exact LeO.refl _)
      | (with_reducible exact LeO.none _)
      | (with_reducible refine LeO.ite ?_ ?_)
      | (with_reducible refine LeO.bind ?_ (fun _ => ?_))
      | exact ih0 _ _ _
      | exact ih1 _ _ _
      | exact ih2 _ _ _
      | exact ih3 _
      | exact flotillakit_Bytes.mono _ _
      | exact flotillalaw04_SumCounted.mono _ _ _
      | exact flotillalaw04_SumJoined.mono _ _ _ _
      | exact flotillalaw04_SumRows.mono _ _ _
      | exact flotillalaw04_SumSeen.mono _ _ _ _
      | exact flotillalaw04_works.mono _
      | exact sum_Of.mono _ _
      | exact LeO.none _
      | refine LeO.ite ?_ ?_
      | refine LeO.bind ?_ (fun _ => ?_)
    · intro y0 y1 y2
      unfold flotillalaw04_SumKnown.l1
      repeat' first
      | (with_reducible exact ih0 _ _ _)
      | (with_reducible exact ih1 _ _ _)
      | (with_reducible exact ih2 _ _ _)
      | (with_reducible exact ih3 _)
      | (with_reducible exact flotillakit_Bytes.mono _ _)
      | (with_reducible exact flotillalaw04_SumCounted.mono _ _ _)
      | (with_reducible exact flotillalaw04_SumJoined.mono _ _ _ _)
      | (with_reducible exact flotillalaw04_SumRows.mono _ _ _)
      | (with_reducible exact flotillalaw04_SumSeen.mono _ _ _ _)
      | (with_reducible exact flotillalaw04_works.mono _)
      | (with_reducible exact sum_Of.mono _ _)
      | (with_reducible exact LeO.refl _)
      | (with_reducible exact LeO.none _)
      | (with_reducible refine LeO.ite ?_ ?_)
      | (with_reducible refine LeO.bind ?_ (fun _ => ?_))
      | exact ih0 _ _ _
      | exact ih1 _ _ _
      | exact ih2 _ _ _
      | exact ih3 _
      | exact flotillakit_Bytes.mono _ _
      | exact flotillalaw04_SumCounted.mono _ _ _
      | exact flotillalaw04_SumJoined.mono _ _ _ _
      | exact flotillalaw04_SumRows.mono _ _ _
      | exact flotillalaw04_SumSeen.mono _ _ _ _
      | exact flotillalaw04_works.mono _
      | exact sum_Of.mono _ _
      | exact LeO.none _
      | refine LeO.ite ?_ ?_
      | refine LeO.bind ?_ (fun _ => ?_)
    · intro y0
      unfold flotillalaw04_SumKnown.l2
      repeat' first
      | (with_reducible exact ih0 _ _ _)
      | (with_reducible exact ih1 _ _ _)
      | (with_reducible exact ih2 _ _ _)
      | (with_reducible exact ih3 _)
      | (with_reducible exact flotillakit_Bytes.mono _ _)
      | (with_reducible exact flotillalaw04_SumCounted.mono _ _ _)
      | (with_reducible exact flotillalaw04_SumJoined.mono _ _ _ _)
      | (with_reducible exact flotillalaw04_SumRows.mono _ _ _)
      | (with_reducible exact flotillalaw04_SumSeen.mono _ _ _ _)
      | (with_reducible exact flotillalaw04_works.mono _)
      | (with_reducible exact sum_Of.mono _ _)
      | (with_reducible exact LeO.refl _)
      | (with_reducible exact LeO.none _)
      | (with_reducible refine LeO.ite ?_ ?_)
      | (with_reducible refine LeO.bind ?_ (fun _ => ?_))
      | exact ih0 _ _ _
      | exact ih1 _ _ _
      | exact ih2 _ _ _
      | exact ih3 _
      | exact flotillakit_Bytes.mono _ _
      | exact flotillalaw04_SumCounted.mono _ _ _
      | exact flotillalaw04_SumJoined.mono _ _ _ _
      | exact flotillalaw04_SumRows.mono _ _ _
      | exact flotillalaw04_SumSeen.mono _ _ _ _
      | exact flotillalaw04_works.mono _
      | exact sum_Of.mono _ _
      | exact LeO.none _
      | refine LeO.ite ?_ ?_
      | refine LeO.bind ?_ (fun _ => ?_)
theorem flotillalaw04_SumKnown.mono : ∀ k, LeO (flotillalaw04_SumKnown.f k ) (flotillalaw04_SumKnown.f (k + 1) ) := by
  intro  k
  obtain ⟨ih0, ih1, ih2, ih3⟩ := flotillalaw04_SumKnown.mono_l k
  unfold flotillalaw04_SumKnown.f
  repeat' first
      | (with_reducible exact ih0 _ _ _)
      | (with_reducible exact ih1 _ _ _)
      | (with_reducible exact ih2 _ _ _)
      | (with_reducible exact ih3 _)
      | (with_reducible exact flotillakit_Bytes.mono _ _)
      | (with_reducible exact flotillalaw04_SumCounted.mono _ _ _)
      | (with_reducible exact flotillalaw04_SumJoined.mono _ _ _ _)
      | (with_reducible exact flotillalaw04_SumRows.mono _ _ _)
      | (with_reducible exact flotillalaw04_SumSeen.mono _ _ _ _)
      | (with_reducible exact flotillalaw04_works.mono _)
      | (with_reducible exact sum_Of.mono _ _)
      | (with_reducible exact LeO.refl _)
      | (with_reducible exact LeO.none _)
      | (with_reducible refine LeO.ite ?_ ?_)
      | (with_reducible refine LeO.bind ?_ (fun _ => ?_))
      | exact ih0 _ _ _
      | exact ih1 _ _ _
      | exact ih2 _ _ _
      | exact ih3 _
      | exact flotillakit_Bytes.mono _ _
      | exact flotillalaw04_SumCounted.mono _ _ _
      | exact flotillalaw04_SumJoined.mono _ _ _ _
      | exact flotillalaw04_SumRows.mono _ _ _
      | exact flotillalaw04_SumSeen.mono _ _ _ _
      | exact flotillalaw04_works.mono _
      | exact sum_Of.mono _ _
      | exact LeO.none _
      | refine LeO.ite ?_ ?_
      | refine LeO.bind ?_ (fun _ => ?_)
set_option maxHeartbeats 8000000 in
set_option maxRecDepth 100000 in
theorem flotillalaw04_SumKnown.calls (k : Nat)  (r : Bool) (w : World) (hG : Go.Proofs.YtckihppdjoianaaDoor.As.Glob w) (h : flotillalaw04_SumKnown.f k  = some r) :
    Calls Tryd.prog 4 #[] w fun e w' => e = .returned (.bool r) ∧ Below w.heap.size w w' := by
  have HGl := Aside0.mk hG
  clear hG
  have hu24 := Tryd.underlying24
  have hu39 := Tryd.underlying39
  have HB := Aside0.mk (Below.refl w.heap.size w)
  have H : (flotillalaw04_SumKnown.l0 k ([] : List Int) ([] : List Int) 0) = some r := h
  clear h
  have H' := Aside0.mk H
  clear H
  go_enter Tryd.func4, Tryd.ntmps4
  go_wp2
  go_loopg [1, 2, 3] k (fun kq v1 v2 v3 w' => ∃ (x1_1 : List Int) (x2_1 : List Int) (x3_1 : Int), v3 = .int .i64 x3_1 ∧ Aside0 (flotillalaw04_SumKnown.l0 kq x1_1 x2_1 x3_1 = some r) ∧ Aside0 (kq ≤ k) ∧ Aside0 (Kd.R (Kd.int .u8) 5 w' w.heap.size (fun k_ => some k_ ≠ (v2 : Value).ownBlock) v1 x1_1) ∧ Aside0 (Kd.R (Kd.int .u8) 5 w' w.heap.size (fun k_ => some k_ ≠ (v1 : Value).ownBlock) v2 x2_1) ∧ Aside0 (Below w.heap.size w w'))
  case atStart => exact ⟨(([] : List Int)), (([] : List Int)), (0), (by first | rfl | (simp; done) | (simp [*]; done)), H', ⟨Nat.le_refl _⟩, ⟨by first | exact Kd.R_nil _ _ _ _ _ | exact Kd.N_nil _ _ _ _ _ | exact Kd.V_nil _ _ _ _ _ | exact Kd.Q_nil _ _ _ _ _ | exact Kd.S_nil _ _ _ _ _⟩, ⟨by first | exact Kd.R_nil _ _ _ _ _ | exact Kd.N_nil _ _ _ _ _ | exact Kd.V_nil _ _ _ _ _ | exact Kd.Q_nil _ _ _ _ _ | exact Kd.S_nil _ _ _ _ _⟩, ⟨by repeat (first | (with_reducible first | exact HB.out | apply below_alloc | apply pw_below_drewN | apply below_drew1) | exact HB.out)⟩⟩
  case round =>
    clear H'
    obtain ⟨x1_1, x2_1, x3_1, rfl, HA, HK1, HO_1, HO_2, HB⟩ := hrel
    cases gk with
    | zero => exact absurd HA.out (by simp [flotillalaw04_SumKnown.l0])
    | succ k1 =>
      have H := HA.out
      clear HA
      simp only [flotillalaw04_SumKnown.l0] at H
      by_cases c1 : x3_1 < 32
      · rw [if_pos c1] at H
        have c1b0 : decide (x3_1 < 32) = true := decide_eq_true c1
        clear c1
        by_cases c2 : x1_1.length < 140737488355328
        · rw [if_pos c2] at H
          have LMc2 := Aside0.mk c2
          clear c2
          obtain ⟨y154, hy154⟩ : ∃ y_ : List Int, y_ = (x1_1 ++ [0]) := ⟨_, rfl⟩
          replace H : (if x2_1.length < 140737488355328 then (flotillalaw04_SumKnown.l0 k1 y154 (x2_1 ++ [255]) (wrap64 (x3_1 + 1))) else (none)) = some r := by first | (rw [hy154]; with_reducible exact H) | (have H2_ := (Option.bind_some _ _).symm.trans H; rw [hy154]; with_reducible exact H2_) | (have H2_ := (Option.bind_some _ _).symm.trans H; with_reducible exact H2_) | with_reducible exact H | (rw [hy154]; exact H) | exact H
          have Ny154 := Aside0.mk hy154
          clear hy154
          by_cases c3 : x2_1.length < 140737488355328
          · rw [if_pos c3] at H
            have LMc3 := Aside0.mk c3
            clear c3
            obtain ⟨y157, hy157⟩ : ∃ y_ : List Int, y_ = (x2_1 ++ [255]) := ⟨_, rfl⟩
            replace H : (flotillalaw04_SumKnown.l0 k1 y154 y157 (wrap64 (x3_1 + 1))) = some r := by first | (rw [hy157]; with_reducible exact H) | (have H2_ := (Option.bind_some _ _).symm.trans H; rw [hy157]; with_reducible exact H2_) | (have H2_ := (Option.bind_some _ _).symm.trans H; with_reducible exact H2_) | with_reducible exact H | (rw [hy157]; exact H) | exact H
            have Ny157 := Aside0.mk hy157
            clear hy157
            have H' := Aside0.mk H
            clear H
            go_wp2_with (first | ((with_reducible refine gate_builtin (b := .append) (xs := #[.tmp 14, .tmp 15]) rfl ?_); (try (refine gate_guard (by rfl) ?_; dsimp only)); at_builtin; refine Kd.R_append (Kd.int .u8) (w0 := w) w.heap.size rfl (.tmp 14) (.tmp 15) 31 5 (.int .u8 0) 1 rfl Tryd.underlying31 info5 rfl (by decide) (by omega) u1 x1_1 0 [.int .u8 0] (fun k_ => some k_ ≠ (u2 : Value).ownBlock) (fun _ => False) rfl rfl ?aP (fun _ hk => hk.elim) ?aF ?aO ?aB ?aS ?aL ?_; (case aP => exact rfl); (case aB => exact (by repeat (first | (with_reducible first | exact HB.out | apply below_alloc | apply pw_below_drewN | apply below_drew1) | exact HB.out))); (case aF => exact (fun k_ hk => Kd.fresh' (Kd.R_lt (by (with_reducible repeat (first | apply Kd.R_alloc | apply Kd.R_drewN | apply Kd.R_drew)); exact HO_2.out)) k_ hk)); (case aO => exact (by (with_reducible repeat (first | apply Kd.R_alloc | apply Kd.R_drewN | apply Kd.R_drew)); exact HO_1.out)); (case aS => exact (below_size (by repeat (first | (with_reducible first | exact HB.out | apply below_alloc | apply pw_below_drewN | apply below_drew1) | exact HB.out)))); (case aL => have := LMc2.out; omega); intro v155 w4 ho hb hg hat; rw [← Ny154.out] at ho; have n0_ := Aside0.mk (Kd.R_after (ok := (fun _ => True)) (by (with_reducible repeat (first | apply Kd.R_alloc | apply Kd.R_drewN | apply Kd.R_drew)); exact Kd.R_mono HO_2.out (fun _ hk => ⟨trivial, hk⟩)) hg hat); have n1_ := Aside0.mk (hb); have n2_ := Aside0.mk (ho); clear HO_2; clear HB; clear HO_1; have HO_2 := n0_; have HB := n1_; have HO156 := n2_; clear n0_ n1_ n2_; clear ho hb hg hat) | ((with_reducible refine gate_builtin (b := .append) (xs := #[.tmp 17, .tmp 18]) rfl ?_); (try (refine gate_guard (by rfl) ?_; dsimp only)); at_builtin; refine Kd.R_append (Kd.int .u8) (w0 := w) w.heap.size rfl (.tmp 17) (.tmp 18) 31 5 (.int .u8 0) 1 rfl Tryd.underlying31 info5 rfl (by decide) (by omega) u2 x2_1 255 [.int .u8 255] (fun k_ => some k_ ≠ (v155 : Value).ownBlock) (fun _ => False) rfl rfl ?aP (fun _ hk => hk.elim) ?aF ?aO ?aB ?aS ?aL ?_; (case aP => exact rfl); (case aB => exact (by repeat (first | (with_reducible first | exact HB.out | apply below_alloc | apply pw_below_drewN | apply below_drew1) | exact HB.out))); (case aF => exact (fun k_ hk => Kd.fresh' (Kd.R_lt (by (with_reducible repeat (first | apply Kd.R_alloc | apply Kd.R_drewN | apply Kd.R_drew)); exact HO156.out)) k_ hk)); (case aO => exact (by (with_reducible repeat (first | apply Kd.R_alloc | apply Kd.R_drewN | apply Kd.R_drew)); exact Kd.R_mono HO_2.out (fun _ hk => hk.2))); (case aS => exact (below_size (by repeat (first | (with_reducible first | exact HB.out | apply below_alloc | apply pw_below_drewN | apply below_drew1) | exact HB.out)))); (case aL => have := LMc3.out; omega); intro v158 w5 ho hb hg hat; rw [← Ny157.out] at ho; have n0_ := Aside0.mk (Kd.R_after (ok := (fun _ => True)) (by (with_reducible repeat (first | apply Kd.R_alloc | apply Kd.R_drewN | apply Kd.R_drew)); exact Kd.R_mono HO156.out (fun _ hk => ⟨trivial, hk⟩)) hg hat); have n1_ := Aside0.mk (hb); have n2_ := Aside0.mk (ho); clear HO156; clear HB; clear HO_2; have HO156 := n0_; have HB := n1_; have HO159 := n2_; clear n0_ n1_ n2_; clear ho hb hg hat))
            go_roundg k1
            case measure => have := HK1.out; omega
            case rel => exact ⟨(y154), (y157), (wrap64 (x3_1 + 1)), (by first | rfl | (simp; done) | (simp [*]; done)), H', ⟨by have := HK1.out; omega⟩, ⟨by (with_reducible repeat (first | apply Kd.R_alloc | apply Kd.R_drewN | apply Kd.R_drew)); exact Kd.R_mono HO156.out (fun _ hk => hk.2)⟩, ⟨by (with_reducible repeat (first | apply Kd.R_alloc | apply Kd.R_drewN | apply Kd.R_drew)); exact HO159.out⟩, ⟨by repeat (first | (with_reducible first | exact HB.out | apply below_alloc | apply pw_below_drewN | apply below_drew1) | exact HB.out)⟩⟩
          · rw [if_neg c3] at H
            exact absurd H (by simp)
        · rw [if_neg c2] at H
          exact absurd H (by simp)
      · rw [if_neg c1] at H
        have c1b0 : decide (x3_1 < 32) = false := decide_eq_false c1
        clear c1
        replace H := Option.bind_eq_some_iff.mp H
        obtain ⟨t160, A60, H⟩ := H
        replace H : ((sum_Of.f k1 t160).bind fun t163 => ((flotillakit_Bytes.f k1 (⟨#[53, 54, 55, 56, 57]⟩ : ByteArray)).bind fun t164 => ((sum_Of.f k1 t164).bind fun t167 => ((sum_Join.f t163 t167 5).bind fun bt168 => ((sum_Join.f 1 2 (-1)).bind fun bt170 => ((flotillalaw04_works.f k1).bind fun t172 => (if t172 = true then (if bt168.2.isNone = true then (if bt168.1 = 3808858755 then ((flotillakit_Plain.f bt170.2 1).bind fun t174 => (if t174 = true then ((sum_Of.f k1 (([0] : List Int))).bind fun t178 => (if t178 = 1383945041 then ((sum_Of.f k1 x1_1).bind fun t179 => (if t179 = 2324772522 then ((sum_Of.f k1 x2_1).bind fun t180 => (if t180 = 1655221059 then ((flotillakit_Bytes.f k1 (⟨#[97]⟩ : ByteArray)).bind fun t181 => ((sum_Of.f k1 t181).bind fun t184 => (flotillalaw04_SumKnown.j1 k1 x1_1 x2_1 (t184 != 3251651376)))) else (flotillalaw04_SumKnown.j1 k1 x1_1 x2_1 true))) else (flotillalaw04_SumKnown.j1 k1 x1_1 x2_1 true))) else (flotillalaw04_SumKnown.j1 k1 x1_1 x2_1 true))) else (flotillalaw04_SumKnown.j1 k1 x1_1 x2_1 true))) else (flotillalaw04_SumKnown.j1 k1 x1_1 x2_1 true)) else (flotillalaw04_SumKnown.j1 k1 x1_1 x2_1 true)) else (flotillalaw04_SumKnown.j1 k1 x1_1 x2_1 true)))))))) = some r := H
        have A6 := Aside0.mk A60
        clear A60
        replace H := Option.bind_eq_some_iff.mp H
        obtain ⟨t163, A70, H⟩ := H
        replace H : ((flotillakit_Bytes.f k1 (⟨#[53, 54, 55, 56, 57]⟩ : ByteArray)).bind fun t164 => ((sum_Of.f k1 t164).bind fun t167 => ((sum_Join.f t163 t167 5).bind fun bt168 => ((sum_Join.f 1 2 (-1)).bind fun bt170 => ((flotillalaw04_works.f k1).bind fun t172 => (if t172 = true then (if bt168.2.isNone = true then (if bt168.1 = 3808858755 then ((flotillakit_Plain.f bt170.2 1).bind fun t174 => (if t174 = true then ((sum_Of.f k1 (([0] : List Int))).bind fun t178 => (if t178 = 1383945041 then ((sum_Of.f k1 x1_1).bind fun t179 => (if t179 = 2324772522 then ((sum_Of.f k1 x2_1).bind fun t180 => (if t180 = 1655221059 then ((flotillakit_Bytes.f k1 (⟨#[97]⟩ : ByteArray)).bind fun t181 => ((sum_Of.f k1 t181).bind fun t184 => (flotillalaw04_SumKnown.j1 k1 x1_1 x2_1 (t184 != 3251651376)))) else (flotillalaw04_SumKnown.j1 k1 x1_1 x2_1 true))) else (flotillalaw04_SumKnown.j1 k1 x1_1 x2_1 true))) else (flotillalaw04_SumKnown.j1 k1 x1_1 x2_1 true))) else (flotillalaw04_SumKnown.j1 k1 x1_1 x2_1 true))) else (flotillalaw04_SumKnown.j1 k1 x1_1 x2_1 true)) else (flotillalaw04_SumKnown.j1 k1 x1_1 x2_1 true)) else (flotillalaw04_SumKnown.j1 k1 x1_1 x2_1 true))))))) = some r := H
        have A7 := Aside0.mk A70
        clear A70
        replace H := Option.bind_eq_some_iff.mp H
        obtain ⟨t164, A80, H⟩ := H
        replace H : ((sum_Of.f k1 t164).bind fun t167 => ((sum_Join.f t163 t167 5).bind fun bt168 => ((sum_Join.f 1 2 (-1)).bind fun bt170 => ((flotillalaw04_works.f k1).bind fun t172 => (if t172 = true then (if bt168.2.isNone = true then (if bt168.1 = 3808858755 then ((flotillakit_Plain.f bt170.2 1).bind fun t174 => (if t174 = true then ((sum_Of.f k1 (([0] : List Int))).bind fun t178 => (if t178 = 1383945041 then ((sum_Of.f k1 x1_1).bind fun t179 => (if t179 = 2324772522 then ((sum_Of.f k1 x2_1).bind fun t180 => (if t180 = 1655221059 then ((flotillakit_Bytes.f k1 (⟨#[97]⟩ : ByteArray)).bind fun t181 => ((sum_Of.f k1 t181).bind fun t184 => (flotillalaw04_SumKnown.j1 k1 x1_1 x2_1 (t184 != 3251651376)))) else (flotillalaw04_SumKnown.j1 k1 x1_1 x2_1 true))) else (flotillalaw04_SumKnown.j1 k1 x1_1 x2_1 true))) else (flotillalaw04_SumKnown.j1 k1 x1_1 x2_1 true))) else (flotillalaw04_SumKnown.j1 k1 x1_1 x2_1 true))) else (flotillalaw04_SumKnown.j1 k1 x1_1 x2_1 true)) else (flotillalaw04_SumKnown.j1 k1 x1_1 x2_1 true)) else (flotillalaw04_SumKnown.j1 k1 x1_1 x2_1 true)))))) = some r := H
        have A8 := Aside0.mk A80
        clear A80
        replace H := Option.bind_eq_some_iff.mp H
        obtain ⟨t167, A90, H⟩ := H
        replace H : ((sum_Join.f t163 t167 5).bind fun bt168 => ((sum_Join.f 1 2 (-1)).bind fun bt170 => ((flotillalaw04_works.f k1).bind fun t172 => (if t172 = true then (if bt168.2.isNone = true then (if bt168.1 = 3808858755 then ((flotillakit_Plain.f bt170.2 1).bind fun t174 => (if t174 = true then ((sum_Of.f k1 (([0] : List Int))).bind fun t178 => (if t178 = 1383945041 then ((sum_Of.f k1 x1_1).bind fun t179 => (if t179 = 2324772522 then ((sum_Of.f k1 x2_1).bind fun t180 => (if t180 = 1655221059 then ((flotillakit_Bytes.f k1 (⟨#[97]⟩ : ByteArray)).bind fun t181 => ((sum_Of.f k1 t181).bind fun t184 => (flotillalaw04_SumKnown.j1 k1 x1_1 x2_1 (t184 != 3251651376)))) else (flotillalaw04_SumKnown.j1 k1 x1_1 x2_1 true))) else (flotillalaw04_SumKnown.j1 k1 x1_1 x2_1 true))) else (flotillalaw04_SumKnown.j1 k1 x1_1 x2_1 true))) else (flotillalaw04_SumKnown.j1 k1 x1_1 x2_1 true))) else (flotillalaw04_SumKnown.j1 k1 x1_1 x2_1 true)) else (flotillalaw04_SumKnown.j1 k1 x1_1 x2_1 true)) else (flotillalaw04_SumKnown.j1 k1 x1_1 x2_1 true))))) = some r := H
        have A9 := Aside0.mk A90
        clear A90
        replace H := Option.bind_eq_some_iff.mp H
        obtain ⟨⟨t168, t169⟩, A100, H⟩ := H
        replace H : ((sum_Join.f 1 2 (-1)).bind fun bt170 => ((flotillalaw04_works.f k1).bind fun t172 => (if t172 = true then (if t169.isNone = true then (if t168 = 3808858755 then ((flotillakit_Plain.f bt170.2 1).bind fun t174 => (if t174 = true then ((sum_Of.f k1 (([0] : List Int))).bind fun t178 => (if t178 = 1383945041 then ((sum_Of.f k1 x1_1).bind fun t179 => (if t179 = 2324772522 then ((sum_Of.f k1 x2_1).bind fun t180 => (if t180 = 1655221059 then ((flotillakit_Bytes.f k1 (⟨#[97]⟩ : ByteArray)).bind fun t181 => ((sum_Of.f k1 t181).bind fun t184 => (flotillalaw04_SumKnown.j1 k1 x1_1 x2_1 (t184 != 3251651376)))) else (flotillalaw04_SumKnown.j1 k1 x1_1 x2_1 true))) else (flotillalaw04_SumKnown.j1 k1 x1_1 x2_1 true))) else (flotillalaw04_SumKnown.j1 k1 x1_1 x2_1 true))) else (flotillalaw04_SumKnown.j1 k1 x1_1 x2_1 true))) else (flotillalaw04_SumKnown.j1 k1 x1_1 x2_1 true)) else (flotillalaw04_SumKnown.j1 k1 x1_1 x2_1 true)) else (flotillalaw04_SumKnown.j1 k1 x1_1 x2_1 true)))) = some r := H
        have A10 := Aside0.mk A100
        clear A100
        replace H := Option.bind_eq_some_iff.mp H
        obtain ⟨⟨t170, t171⟩, A110, H⟩ := H
        replace H : ((flotillalaw04_works.f k1).bind fun t172 => (if t172 = true then (if t169.isNone = true then (if t168 = 3808858755 then ((flotillakit_Plain.f t171 1).bind fun t174 => (if t174 = true then ((sum_Of.f k1 (([0] : List Int))).bind fun t178 => (if t178 = 1383945041 then ((sum_Of.f k1 x1_1).bind fun t179 => (if t179 = 2324772522 then ((sum_Of.f k1 x2_1).bind fun t180 => (if t180 = 1655221059 then ((flotillakit_Bytes.f k1 (⟨#[97]⟩ : ByteArray)).bind fun t181 => ((sum_Of.f k1 t181).bind fun t184 => (flotillalaw04_SumKnown.j1 k1 x1_1 x2_1 (t184 != 3251651376)))) else (flotillalaw04_SumKnown.j1 k1 x1_1 x2_1 true))) else (flotillalaw04_SumKnown.j1 k1 x1_1 x2_1 true))) else (flotillalaw04_SumKnown.j1 k1 x1_1 x2_1 true))) else (flotillalaw04_SumKnown.j1 k1 x1_1 x2_1 true))) else (flotillalaw04_SumKnown.j1 k1 x1_1 x2_1 true)) else (flotillalaw04_SumKnown.j1 k1 x1_1 x2_1 true)) else (flotillalaw04_SumKnown.j1 k1 x1_1 x2_1 true))) = some r := H
        have A11 := Aside0.mk A110
        clear A110
        have HC12 := Aside0.mk H
        clear H
        go_upto_region 9 with (first | ((with_reducible refine gate_callee (f := 9) rfl ?_); refine goesL_ (some 21) rfl rfl Tryd.func9 (by kernel_rfl) rfl #[.string (⟨#[49, 50, 51, 52]⟩ : ByteArray)] rfl (by (try simp only [List.map_toArray, List.map_cons, List.map_nil]); first | done | rfl | (simp only [List.length_drop, List.length_take]; rfl)) ?_; (with_reducible refine (flotillakit_Bytes.calls k1 (⟨#[49, 50, 51, 52]⟩ : ByteArray) t160 _ A6.out).mono ?_); rintro e w13 ⟨v161, rfl, ho0, hb⟩; refine ⟨_, rfl, ?_⟩; have n0_ := Aside0.mk (Kd.R_elder' (by (with_reducible repeat (first | apply Kd.R_alloc | apply Kd.R_drewN | apply Kd.R_drew)); exact HO_1.out) (Kd.R_base ho0) hb); have n1_ := Aside0.mk (Kd.R_elder' (by (with_reducible repeat (first | apply Kd.R_alloc | apply Kd.R_drewN | apply Kd.R_drew)); exact HO_2.out) (Kd.R_base ho0) hb); have n2_ := Aside0.mk (Kd.R_lower (Kd.R_new' (Kd.R_new' ho0 (Kd.R_lt (by (with_reducible repeat (first | apply Kd.R_alloc | apply Kd.R_drewN | apply Kd.R_drew)); exact HO_1.out))) (Kd.R_lt (by (with_reducible repeat (first | apply Kd.R_alloc | apply Kd.R_drewN | apply Kd.R_drew)); exact HO_2.out))) (below_size (by repeat (first | (with_reducible first | exact HB.out | apply below_alloc | apply pw_below_drewN | apply below_drew1) | exact HB.out)))); have n3_ := Aside0.mk (below_step (by repeat (first | (with_reducible first | exact HB.out | apply below_alloc | apply pw_below_drewN | apply below_drew1) | exact HB.out)) hb); clear HO_1; clear HO_2; clear HB; have HO_1 := n0_; have HO_2 := n1_; have HO162 := n2_; have HB := n3_; clear n0_ n1_ n2_ n3_; (try clear hb); (try clear hb2); (try clear hk); (try clear hi); (try clear ho0); obtain ⟨Ao14, co14, eo14⟩ := Kd.R_slice HO162.out; subst eo14) | ((with_reducible refine gate_callee (f := 8) rfl ?_); refine goesL_ (some 22) rfl rfl Tryd.func8 (by kernel_rfl) rfl #[.slice Ao14 t160.length co14] rfl (by (try simp only [List.map_toArray, List.map_cons, List.map_nil]); first | done | rfl | (simp only [List.length_drop, List.length_take]; rfl)) ?_; (with_reducible refine (sum_Of.calls k1 _ _ t160 t163 _ ?side1 ?side2 A7.out).mono ?_); (case side1 => repeat (first | exact (Kd.R_reads' HO162.out).2.2 | (with_reducible refine Kd.C_alloc ?_ _) | (with_reducible refine Kd.C_drewN ?_ _) | (with_reducible refine Kd.C_drew ?_))); (case side2 => exact (Kd.R_reads' HO162.out).2.1); rintro e w' ⟨rfl, ⟨nd, rfl⟩⟩; refine ⟨_, rfl, ?_⟩) | ((with_reducible refine gate_callee (f := 9) rfl ?_); refine goesL_ (some 23) rfl rfl Tryd.func9 (by kernel_rfl) rfl #[.string (⟨#[53, 54, 55, 56, 57]⟩ : ByteArray)] rfl (by (try simp only [List.map_toArray, List.map_cons, List.map_nil]); first | done | rfl | (simp only [List.length_drop, List.length_take]; rfl)) ?_; (with_reducible refine (flotillakit_Bytes.calls k1 (⟨#[53, 54, 55, 56, 57]⟩ : ByteArray) t164 _ A8.out).mono ?_); rintro e w15 ⟨v165, rfl, ho0, hb⟩; refine ⟨_, rfl, ?_⟩; have n0_ := Aside0.mk (Kd.R_elder' (by (with_reducible repeat (first | apply Kd.R_alloc | apply Kd.R_drewN | apply Kd.R_drew)); exact HO_1.out) (Kd.R_base ho0) hb); have n1_ := Aside0.mk (Kd.R_elder' (by (with_reducible repeat (first | apply Kd.R_alloc | apply Kd.R_drewN | apply Kd.R_drew)); exact HO_2.out) (Kd.R_base ho0) hb); have n2_ := Aside0.mk (Kd.R_elder' (by (with_reducible repeat (first | apply Kd.R_alloc | apply Kd.R_drewN | apply Kd.R_drew)); exact HO162.out) (Kd.R_base ho0) hb); have n3_ := Aside0.mk (Kd.R_lower (Kd.R_new' (Kd.R_new' (Kd.R_new' ho0 (Kd.R_lt (by (with_reducible repeat (first | apply Kd.R_alloc | apply Kd.R_drewN | apply Kd.R_drew)); exact HO_1.out))) (Kd.R_lt (by (with_reducible repeat (first | apply Kd.R_alloc | apply Kd.R_drewN | apply Kd.R_drew)); exact HO_2.out))) (Kd.R_lt (by (with_reducible repeat (first | apply Kd.R_alloc | apply Kd.R_drewN | apply Kd.R_drew)); exact HO162.out))) (below_size (by repeat (first | (with_reducible first | exact HB.out | apply below_alloc | apply pw_below_drewN | apply below_drew1) | exact HB.out)))); have n4_ := Aside0.mk (below_step (by repeat (first | (with_reducible first | exact HB.out | apply below_alloc | apply pw_below_drewN | apply below_drew1) | exact HB.out)) hb); clear HO_1; clear HO_2; clear HO162; clear HB; have HO_1 := n0_; have HO_2 := n1_; have HO162 := n2_; have HO166 := n3_; have HB := n4_; clear n0_ n1_ n2_ n3_ n4_; (try clear hb); (try clear hb2); (try clear hk); (try clear hi); (try clear ho0); obtain ⟨Ao16, co16, eo16⟩ := Kd.R_slice HO166.out; subst eo16) | ((with_reducible refine gate_callee (f := 8) rfl ?_); refine goesL_ (some 24) rfl rfl Tryd.func8 (by kernel_rfl) rfl #[.slice Ao16 t164.length co16] rfl (by (try simp only [List.map_toArray, List.map_cons, List.map_nil]); first | done | rfl | (simp only [List.length_drop, List.length_take]; rfl)) ?_; (with_reducible refine (sum_Of.calls k1 _ _ t164 t167 _ ?side1 ?side2 A9.out).mono ?_); (case side1 => repeat (first | exact (Kd.R_reads' HO166.out).2.2 | (with_reducible refine Kd.C_alloc ?_ _) | (with_reducible refine Kd.C_drewN ?_ _) | (with_reducible refine Kd.C_drew ?_))); (case side2 => exact (Kd.R_reads' HO166.out).2.1); rintro e w' ⟨rfl, ⟨nd, rfl⟩⟩; refine ⟨_, rfl, ?_⟩) | ((with_reducible refine gate_callee (f := 5) rfl ?_); refine goesL_ (some 25) rfl rfl Tryd.func5 (by kernel_rfl) rfl #[.int .u32 t163, .int .u32 t167, .int .i64 5] rfl (by (try simp only [List.map_toArray, List.map_cons, List.map_nil]); first | done | rfl | (simp only [List.length_drop, List.length_take]; rfl)) ?_; (with_reducible refine (sum_Join.calls t163 t167 5 t168 t169 _ A10.out).mono ?_); rintro e w17 ⟨rfl, hb⟩; refine ⟨_, rfl, ?_⟩; have n0_ := Aside0.mk (Kd.R_below (by (with_reducible repeat (first | apply Kd.R_alloc | apply Kd.R_drewN | apply Kd.R_drew)); exact HO_1.out) hb); have n1_ := Aside0.mk (Kd.R_below (by (with_reducible repeat (first | apply Kd.R_alloc | apply Kd.R_drewN | apply Kd.R_drew)); exact HO_2.out) hb); have n2_ := Aside0.mk (Kd.R_below (by (with_reducible repeat (first | apply Kd.R_alloc | apply Kd.R_drewN | apply Kd.R_drew)); exact HO162.out) hb); have n3_ := Aside0.mk (Kd.R_below (by (with_reducible repeat (first | apply Kd.R_alloc | apply Kd.R_drewN | apply Kd.R_drew)); exact HO166.out) hb); have n4_ := Aside0.mk (below_step (by repeat (first | (with_reducible first | exact HB.out | apply below_alloc | apply pw_below_drewN | apply below_drew1) | exact HB.out)) hb); clear HO_1; clear HO_2; clear HO162; clear HO166; clear HB; have HO_1 := n0_; have HO_2 := n1_; have HO162 := n2_; have HO166 := n3_; have HB := n4_; clear n0_ n1_ n2_ n3_ n4_; (try clear hb); (try clear hb2); (try clear hk); (try clear hi); (try simp only [errW_none, errW_some])) | ((with_reducible refine gate_callee (f := 5) rfl ?_); refine goesL_ (some 29) rfl rfl Tryd.func5 (by kernel_rfl) rfl #[.int .u32 1, .int .u32 2, .int .i64 (-1)] rfl (by (try simp only [List.map_toArray, List.map_cons, List.map_nil]); first | done | rfl | (simp only [List.length_drop, List.length_take]; rfl)) ?_; (with_reducible refine (sum_Join.calls 1 2 (-1) t170 t171 _ A11.out).mono ?_); rintro e w18 ⟨rfl, hb⟩; refine ⟨_, rfl, ?_⟩; have n0_ := Aside0.mk (Kd.R_below (by (with_reducible repeat (first | apply Kd.R_alloc | apply Kd.R_drewN | apply Kd.R_drew)); exact HO_1.out) hb); have n1_ := Aside0.mk (Kd.R_below (by (with_reducible repeat (first | apply Kd.R_alloc | apply Kd.R_drewN | apply Kd.R_drew)); exact HO_2.out) hb); have n2_ := Aside0.mk (Kd.R_below (by (with_reducible repeat (first | apply Kd.R_alloc | apply Kd.R_drewN | apply Kd.R_drew)); exact HO162.out) hb); have n3_ := Aside0.mk (Kd.R_below (by (with_reducible repeat (first | apply Kd.R_alloc | apply Kd.R_drewN | apply Kd.R_drew)); exact HO166.out) hb); have n4_ := Aside0.mk (below_step (by repeat (first | (with_reducible first | exact HB.out | apply below_alloc | apply pw_below_drewN | apply below_drew1) | exact HB.out)) hb); clear HO_1; clear HO_2; clear HO162; clear HO166; clear HB; have HO_1 := n0_; have HO_2 := n1_; have HO162 := n2_; have HO166 := n3_; have HB := n4_; clear n0_ n1_ n2_ n3_ n4_; (try clear hb); (try clear hb2); (try clear hk); (try clear hi); (try simp only [errW_none, errW_some])))
        (try simp only [Act.put, List.setIfInBounds_toArray, List.set_cons_zero, List.set_cons_succ])
        go_cut [66] (fun v66 wc => ∃ (kq : Nat) (x66_11 : Bool), v66 = .bool x66_11 ∧ Aside0 (flotillalaw04_SumKnown.j1 kq x1_1 x2_1 x66_11 = some r) ∧ Aside0 (kq ≤ k1) ∧ Aside0 (Kd.R (Kd.int .u8) 5 wc w.heap.size (fun k_ => some k_ ≠ (u2 : Value).ownBlock) u1 x1_1) ∧ Aside0 (Kd.R (Kd.int .u8) 5 wc w.heap.size (fun k_ => some k_ ≠ (u1 : Value).ownBlock) u2 x2_1) ∧ Aside0 (Below w.heap.size w wc))
        case first =>
          have H := HC12.out
          clear HC12
          replace H := Option.bind_eq_some_iff.mp H
          obtain ⟨t172, A190, H⟩ := H
          replace H : (if t172 = true then (if t169.isNone = true then (if t168 = 3808858755 then ((flotillakit_Plain.f t171 1).bind fun t174 => (if t174 = true then ((sum_Of.f k1 (([0] : List Int))).bind fun t178 => (if t178 = 1383945041 then ((sum_Of.f k1 x1_1).bind fun t179 => (if t179 = 2324772522 then ((sum_Of.f k1 x2_1).bind fun t180 => (if t180 = 1655221059 then ((flotillakit_Bytes.f k1 (⟨#[97]⟩ : ByteArray)).bind fun t181 => ((sum_Of.f k1 t181).bind fun t184 => (flotillalaw04_SumKnown.j1 k1 x1_1 x2_1 (t184 != 3251651376)))) else (flotillalaw04_SumKnown.j1 k1 x1_1 x2_1 true))) else (flotillalaw04_SumKnown.j1 k1 x1_1 x2_1 true))) else (flotillalaw04_SumKnown.j1 k1 x1_1 x2_1 true))) else (flotillalaw04_SumKnown.j1 k1 x1_1 x2_1 true))) else (flotillalaw04_SumKnown.j1 k1 x1_1 x2_1 true)) else (flotillalaw04_SumKnown.j1 k1 x1_1 x2_1 true)) else (flotillalaw04_SumKnown.j1 k1 x1_1 x2_1 true)) = some r := H
          have A19 := Aside0.mk A190
          clear A190
          by_cases c20 : t172 = true
          · subst c20
            have H1 : (if t169.isNone = true then (if t168 = 3808858755 then ((flotillakit_Plain.f t171 1).bind fun t174 => (if t174 = true then ((sum_Of.f k1 (([0] : List Int))).bind fun t178 => (if t178 = 1383945041 then ((sum_Of.f k1 x1_1).bind fun t179 => (if t179 = 2324772522 then ((sum_Of.f k1 x2_1).bind fun t180 => (if t180 = 1655221059 then ((flotillakit_Bytes.f k1 (⟨#[97]⟩ : ByteArray)).bind fun t181 => ((sum_Of.f k1 t181).bind fun t184 => (flotillalaw04_SumKnown.j1 k1 x1_1 x2_1 (t184 != 3251651376)))) else (flotillalaw04_SumKnown.j1 k1 x1_1 x2_1 true))) else (flotillalaw04_SumKnown.j1 k1 x1_1 x2_1 true))) else (flotillalaw04_SumKnown.j1 k1 x1_1 x2_1 true))) else (flotillalaw04_SumKnown.j1 k1 x1_1 x2_1 true))) else (flotillalaw04_SumKnown.j1 k1 x1_1 x2_1 true)) else (flotillalaw04_SumKnown.j1 k1 x1_1 x2_1 true)) = some r := by rw [if_pos rfl] at H; exact H
            clear H
            have H := H1
            clear H1
            rcases t169 with _ | q173
            · have H1 : (if t168 = 3808858755 then ((flotillakit_Plain.f t171 1).bind fun t174 => (if t174 = true then ((sum_Of.f k1 (([0] : List Int))).bind fun t178 => (if t178 = 1383945041 then ((sum_Of.f k1 x1_1).bind fun t179 => (if t179 = 2324772522 then ((sum_Of.f k1 x2_1).bind fun t180 => (if t180 = 1655221059 then ((flotillakit_Bytes.f k1 (⟨#[97]⟩ : ByteArray)).bind fun t181 => ((sum_Of.f k1 t181).bind fun t184 => (flotillalaw04_SumKnown.j1 k1 x1_1 x2_1 (t184 != 3251651376)))) else (flotillalaw04_SumKnown.j1 k1 x1_1 x2_1 true))) else (flotillalaw04_SumKnown.j1 k1 x1_1 x2_1 true))) else (flotillalaw04_SumKnown.j1 k1 x1_1 x2_1 true))) else (flotillalaw04_SumKnown.j1 k1 x1_1 x2_1 true))) else (flotillalaw04_SumKnown.j1 k1 x1_1 x2_1 true)) = some r := by rw [if_pos (show (none : Option Int).isNone = true by rfl)] at H; exact H
              clear H
              have H := H1
              clear H1
              try simp only [errW_none, errW_some]
              by_cases c21 : t168 = 3808858755
              · rw [if_pos c21] at H
                have c21b0 : (t168 == 3808858755) = true := beq_iff_eq.mpr c21
                have c21b1 : (t168 != 3808858755) = false := bne_eq_false_iff_eq.mpr c21
                clear c21
                (first | rw [c21b0] | (simp only [i64_w, i32_w]; rw [c21b0]) | skip)
                replace H := Option.bind_eq_some_iff.mp H
                obtain ⟨t174, A220, H⟩ := H
                replace H : (if t174 = true then ((sum_Of.f k1 (([0] : List Int))).bind fun t178 => (if t178 = 1383945041 then ((sum_Of.f k1 x1_1).bind fun t179 => (if t179 = 2324772522 then ((sum_Of.f k1 x2_1).bind fun t180 => (if t180 = 1655221059 then ((flotillakit_Bytes.f k1 (⟨#[97]⟩ : ByteArray)).bind fun t181 => ((sum_Of.f k1 t181).bind fun t184 => (flotillalaw04_SumKnown.j1 k1 x1_1 x2_1 (t184 != 3251651376)))) else (flotillalaw04_SumKnown.j1 k1 x1_1 x2_1 true))) else (flotillalaw04_SumKnown.j1 k1 x1_1 x2_1 true))) else (flotillalaw04_SumKnown.j1 k1 x1_1 x2_1 true))) else (flotillalaw04_SumKnown.j1 k1 x1_1 x2_1 true)) = some r := H
                have A22 := Aside0.mk A220
                clear A220
                by_cases c23 : t174 = true
                · subst c23
                  have H1 : ((sum_Of.f k1 (([0] : List Int))).bind fun t178 => (if t178 = 1383945041 then ((sum_Of.f k1 x1_1).bind fun t179 => (if t179 = 2324772522 then ((sum_Of.f k1 x2_1).bind fun t180 => (if t180 = 1655221059 then ((flotillakit_Bytes.f k1 (⟨#[97]⟩ : ByteArray)).bind fun t181 => ((sum_Of.f k1 t181).bind fun t184 => (flotillalaw04_SumKnown.j1 k1 x1_1 x2_1 (t184 != 3251651376)))) else (flotillalaw04_SumKnown.j1 k1 x1_1 x2_1 true))) else (flotillalaw04_SumKnown.j1 k1 x1_1 x2_1 true))) else (flotillalaw04_SumKnown.j1 k1 x1_1 x2_1 true))) = some r := by rw [if_pos rfl] at H; exact H
                  clear H
                  have H := H1
                  clear H1
                  obtain ⟨y175, hy175⟩ : ∃ y_ : List Int, y_ = (([0] : List Int)) := ⟨_, rfl⟩
                  replace H : ((sum_Of.f k1 y175).bind fun t178 => (if t178 = 1383945041 then ((sum_Of.f k1 x1_1).bind fun t179 => (if t179 = 2324772522 then ((sum_Of.f k1 x2_1).bind fun t180 => (if t180 = 1655221059 then ((flotillakit_Bytes.f k1 (⟨#[97]⟩ : ByteArray)).bind fun t181 => ((sum_Of.f k1 t181).bind fun t184 => (flotillalaw04_SumKnown.j1 k1 x1_1 x2_1 (t184 != 3251651376)))) else (flotillalaw04_SumKnown.j1 k1 x1_1 x2_1 true))) else (flotillalaw04_SumKnown.j1 k1 x1_1 x2_1 true))) else (flotillalaw04_SumKnown.j1 k1 x1_1 x2_1 true))) = some r := by first | (rw [hy175]; with_reducible exact H) | (have H2_ := (Option.bind_some _ _).symm.trans H; rw [hy175]; with_reducible exact H2_) | (have H2_ := (Option.bind_some _ _).symm.trans H; with_reducible exact H2_) | with_reducible exact H | (rw [hy175]; exact H) | exact H
                  have Ny175 := Aside0.mk hy175
                  clear hy175
                  replace H := Option.bind_eq_some_iff.mp H
                  obtain ⟨t178, A240, H⟩ := H
                  replace H : (if t178 = 1383945041 then ((sum_Of.f k1 x1_1).bind fun t179 => (if t179 = 2324772522 then ((sum_Of.f k1 x2_1).bind fun t180 => (if t180 = 1655221059 then ((flotillakit_Bytes.f k1 (⟨#[97]⟩ : ByteArray)).bind fun t181 => ((sum_Of.f k1 t181).bind fun t184 => (flotillalaw04_SumKnown.j1 k1 x1_1 x2_1 (t184 != 3251651376)))) else (flotillalaw04_SumKnown.j1 k1 x1_1 x2_1 true))) else (flotillalaw04_SumKnown.j1 k1 x1_1 x2_1 true))) else (flotillalaw04_SumKnown.j1 k1 x1_1 x2_1 true)) = some r := H
                  have A24 := Aside0.mk A240
                  clear A240
                  by_cases c25 : t178 = 1383945041
                  · rw [if_pos c25] at H
                    have c25b0 : (t178 == 1383945041) = true := beq_iff_eq.mpr c25
                    have c25b1 : (t178 != 1383945041) = false := bne_eq_false_iff_eq.mpr c25
                    clear c25
                    replace H := Option.bind_eq_some_iff.mp H
                    obtain ⟨t179, A260, H⟩ := H
                    replace H : (if t179 = 2324772522 then ((sum_Of.f k1 x2_1).bind fun t180 => (if t180 = 1655221059 then ((flotillakit_Bytes.f k1 (⟨#[97]⟩ : ByteArray)).bind fun t181 => ((sum_Of.f k1 t181).bind fun t184 => (flotillalaw04_SumKnown.j1 k1 x1_1 x2_1 (t184 != 3251651376)))) else (flotillalaw04_SumKnown.j1 k1 x1_1 x2_1 true))) else (flotillalaw04_SumKnown.j1 k1 x1_1 x2_1 true)) = some r := H
                    have A26 := Aside0.mk A260
                    clear A260
                    by_cases c27 : t179 = 2324772522
                    · rw [if_pos c27] at H
                      have c27b0 : (t179 == 2324772522) = true := beq_iff_eq.mpr c27
                      have c27b1 : (t179 != 2324772522) = false := bne_eq_false_iff_eq.mpr c27
                      clear c27
                      replace H := Option.bind_eq_some_iff.mp H
                      obtain ⟨t180, A280, H⟩ := H
                      replace H : (if t180 = 1655221059 then ((flotillakit_Bytes.f k1 (⟨#[97]⟩ : ByteArray)).bind fun t181 => ((sum_Of.f k1 t181).bind fun t184 => (flotillalaw04_SumKnown.j1 k1 x1_1 x2_1 (t184 != 3251651376)))) else (flotillalaw04_SumKnown.j1 k1 x1_1 x2_1 true)) = some r := H
                      have A28 := Aside0.mk A280
                      clear A280
                      by_cases c29 : t180 = 1655221059
                      · rw [if_pos c29] at H
                        have c29b0 : (t180 == 1655221059) = true := beq_iff_eq.mpr c29
                        have c29b1 : (t180 != 1655221059) = false := bne_eq_false_iff_eq.mpr c29
                        clear c29
                        replace H := Option.bind_eq_some_iff.mp H
                        obtain ⟨t181, A300, H⟩ := H
                        replace H : ((sum_Of.f k1 t181).bind fun t184 => (flotillalaw04_SumKnown.j1 k1 x1_1 x2_1 (t184 != 3251651376))) = some r := H
                        have A30 := Aside0.mk A300
                        clear A300
                        replace H := Option.bind_eq_some_iff.mp H
                        obtain ⟨t184, A310, H⟩ := H
                        replace H : (flotillalaw04_SumKnown.j1 k1 x1_1 x2_1 (t184 != 3251651376)) = some r := H
                        have A31 := Aside0.mk A310
                        clear A310
                        have H' := Aside0.mk H
                        clear H
                        go_wp2_with (first | ((with_reducible refine gate_callee (f := 10) rfl ?_); refine goesL_ (some 32) rfl rfl Tryd.func10 (by kernel_rfl) rfl #[] rfl (by (try simp only [List.map_toArray, List.map_cons, List.map_nil]); first | done | rfl | (simp only [List.length_drop, List.length_take]; rfl)) ?_; (with_reducible refine (flotillalaw04_works.calls k1  true _ A19.out).mono ?_); rintro e w32 ⟨rfl, hb⟩; refine ⟨_, rfl, ?_⟩; have n0_ := Aside0.mk (Kd.R_below (by (with_reducible repeat (first | apply Kd.R_alloc | apply Kd.R_drewN | apply Kd.R_drew)); exact HO_1.out) hb); have n1_ := Aside0.mk (Kd.R_below (by (with_reducible repeat (first | apply Kd.R_alloc | apply Kd.R_drewN | apply Kd.R_drew)); exact HO_2.out) hb); have n2_ := Aside0.mk (Kd.R_below (by (with_reducible repeat (first | apply Kd.R_alloc | apply Kd.R_drewN | apply Kd.R_drew)); exact HO162.out) hb); have n3_ := Aside0.mk (Kd.R_below (by (with_reducible repeat (first | apply Kd.R_alloc | apply Kd.R_drewN | apply Kd.R_drew)); exact HO166.out) hb); have n4_ := Aside0.mk (below_step (by repeat (first | (with_reducible first | exact HB.out | apply below_alloc | apply pw_below_drewN | apply below_drew1) | exact HB.out)) hb); clear HO_1; clear HO_2; clear HO162; clear HO166; clear HB; have HO_1 := n0_; have HO_2 := n1_; have HO162 := n2_; have HO166 := n3_; have HB := n4_; clear n0_ n1_ n2_ n3_ n4_; (try clear hb); (try clear hb2); (try clear hk); (try clear hi); have CA22 := fun (W : World) (hGW : Go.Proofs.YtckihppdjoianaaDoor.As.Glob W) => flotillakit_Plain.calls t171 1 true W hGW A22.out; try simp only [errW_none, errW_some] at CA22) | (go_at_call 7; (with_reducible refine (CA22 _ (Go.Proofs.YtckihppdjoianaaDoor.As.Glob.below HGl.out (by repeat (first | (with_reducible first | exact HB.out | apply below_alloc | apply pw_below_drewN | apply below_drew1) | exact HB.out)))).mono ?_); rintro e w33 ⟨rfl, hb⟩; have n0_ := Aside0.mk (Kd.R_below (by (with_reducible repeat (first | apply Kd.R_alloc | apply Kd.R_drewN | apply Kd.R_drew)); exact HO_1.out) hb); have n1_ := Aside0.mk (Kd.R_below (by (with_reducible repeat (first | apply Kd.R_alloc | apply Kd.R_drewN | apply Kd.R_drew)); exact HO_2.out) hb); have n2_ := Aside0.mk (Kd.R_below (by (with_reducible repeat (first | apply Kd.R_alloc | apply Kd.R_drewN | apply Kd.R_drew)); exact HO162.out) hb); have n3_ := Aside0.mk (Kd.R_below (by (with_reducible repeat (first | apply Kd.R_alloc | apply Kd.R_drewN | apply Kd.R_drew)); exact HO166.out) hb); have n4_ := Aside0.mk (below_step (by repeat (first | (with_reducible first | exact HB.out | apply below_alloc | apply pw_below_drewN | apply below_drew1) | exact HB.out)) hb); clear HO_1; clear HO_2; clear HO162; clear HO166; clear HB; have HO_1 := n0_; have HO_2 := n1_; have HO162 := n2_; have HO166 := n3_; have HB := n4_; clear n0_ n1_ n2_ n3_ n4_; (try clear hb); (try clear hb2); (try clear hk); (try clear hi)) | ((with_reducible refine gate_dst (N := 48) rfl ?_); (try (refine gate_guard (by rfl) ?_; dsimp only)); refine Kd.R_lit (Kd.int .u8) _ 5 ?hg (N := 48) ?hd (xs := ([0] : List Int)) (inner := [.int .u8 0]) (ok := fun _ => True) (okp := fun _ => True) ?hr ?hp (fun _ hk => hk) trivial (Below.refl _ _) (Nat.le_refl _) (by simp) ?_; (case hd => rfl); (case hg => rfl); (case hr => first | (go_simp; done) | (go_simp; rfl)); (case hp => exact (Reps.one (show Kd.M (Kd.int .u8) _ _ _ 0 [.int .u8 0] from rfl) (Reps.none _ _))); intro v176 w34 ho35 hb hg_ hnew_; clear hg_ hnew_; (first | rw [← Ny175.out] at ho35 | (simp only [Int.reduceToNat] at ho35; rw [← Ny175.out] at ho35)); have n0_ := Aside0.mk (Kd.R_elder' (by (with_reducible repeat (first | apply Kd.R_alloc | apply Kd.R_drewN | apply Kd.R_drew)); exact HO_1.out) (Kd.R_base ho35) hb); have n1_ := Aside0.mk (Kd.R_elder' (by (with_reducible repeat (first | apply Kd.R_alloc | apply Kd.R_drewN | apply Kd.R_drew)); exact HO_2.out) (Kd.R_base ho35) hb); have n2_ := Aside0.mk (Kd.R_elder' (by (with_reducible repeat (first | apply Kd.R_alloc | apply Kd.R_drewN | apply Kd.R_drew)); exact HO162.out) (Kd.R_base ho35) hb); have n3_ := Aside0.mk (Kd.R_elder' (by (with_reducible repeat (first | apply Kd.R_alloc | apply Kd.R_drewN | apply Kd.R_drew)); exact HO166.out) (Kd.R_base ho35) hb); have n4_ := Aside0.mk (Kd.R_lower (Kd.R_new' (Kd.R_new' (Kd.R_new' (Kd.R_new' ho35 (Kd.R_lt (by (with_reducible repeat (first | apply Kd.R_alloc | apply Kd.R_drewN | apply Kd.R_drew)); exact HO_1.out))) (Kd.R_lt (by (with_reducible repeat (first | apply Kd.R_alloc | apply Kd.R_drewN | apply Kd.R_drew)); exact HO_2.out))) (Kd.R_lt (by (with_reducible repeat (first | apply Kd.R_alloc | apply Kd.R_drewN | apply Kd.R_drew)); exact HO162.out))) (Kd.R_lt (by (with_reducible repeat (first | apply Kd.R_alloc | apply Kd.R_drewN | apply Kd.R_drew)); exact HO166.out))) (below_size (by repeat (first | (with_reducible first | exact HB.out | apply below_alloc | apply pw_below_drewN | apply below_drew1) | exact HB.out)))); have n5_ := Aside0.mk (below_step (by repeat (first | (with_reducible first | exact HB.out | apply below_alloc | apply pw_below_drewN | apply below_drew1) | exact HB.out)) hb); clear HO_1; clear HO_2; clear HO162; clear HO166; clear HB; have HO_1 := n0_; have HO_2 := n1_; have HO162 := n2_; have HO166 := n3_; have HO177 := n4_; have HB := n5_; clear n0_ n1_ n2_ n3_ n4_ n5_; clear hb ho35; obtain ⟨Ao36, co36, eo36⟩ := Kd.R_slice HO177.out; subst eo36) | (go_at_call 8; (with_reducible refine (sum_Of.calls k1 _ _ y175 t178 _ ?side1 ?side2 A24.out).mono ?_); (case side1 => repeat (first | exact (Kd.R_reads' HO177.out).2.2 | (with_reducible refine Kd.C_alloc ?_ _) | (with_reducible refine Kd.C_drewN ?_ _) | (with_reducible refine Kd.C_drew ?_))); (case side2 => exact (Kd.R_reads' HO177.out).2.1); rintro e w' ⟨rfl, ⟨nd, rfl⟩⟩; obtain ⟨Ao37, co37, eo37⟩ := Kd.R_slice HO_1.out; subst eo37) | (go_at_call 8; (with_reducible refine (sum_Of.calls k1 _ _ x1_1 t179 _ ?side1 ?side2 A26.out).mono ?_); (case side1 => repeat (first | exact (Kd.R_reads' HO_1.out).2.2 | (with_reducible refine Kd.C_alloc ?_ _) | (with_reducible refine Kd.C_drewN ?_ _) | (with_reducible refine Kd.C_drew ?_))); (case side2 => exact (Kd.R_reads' HO_1.out).2.1); rintro e w' ⟨rfl, ⟨nd, rfl⟩⟩; obtain ⟨Ao38, co38, eo38⟩ := Kd.R_slice HO_2.out; subst eo38) | (go_at_call 8; (with_reducible refine (sum_Of.calls k1 _ _ x2_1 t180 _ ?side1 ?side2 A28.out).mono ?_); (case side1 => repeat (first | exact (Kd.R_reads' HO_2.out).2.2 | (with_reducible refine Kd.C_alloc ?_ _) | (with_reducible refine Kd.C_drewN ?_ _) | (with_reducible refine Kd.C_drew ?_))); (case side2 => exact (Kd.R_reads' HO_2.out).2.1); rintro e w' ⟨rfl, ⟨nd, rfl⟩⟩) | (go_at_call 9; (with_reducible refine (flotillakit_Bytes.calls k1 (⟨#[97]⟩ : ByteArray) t181 _ A30.out).mono ?_); rintro e w39 ⟨v182, rfl, ho0, hb⟩; have n0_ := Aside0.mk (Kd.R_elder' (by (with_reducible repeat (first | apply Kd.R_alloc | apply Kd.R_drewN | apply Kd.R_drew)); exact HO_1.out) (Kd.R_base ho0) hb); have n1_ := Aside0.mk (Kd.R_elder' (by (with_reducible repeat (first | apply Kd.R_alloc | apply Kd.R_drewN | apply Kd.R_drew)); exact HO_2.out) (Kd.R_base ho0) hb); have n2_ := Aside0.mk (Kd.R_elder' (by (with_reducible repeat (first | apply Kd.R_alloc | apply Kd.R_drewN | apply Kd.R_drew)); exact HO162.out) (Kd.R_base ho0) hb); have n3_ := Aside0.mk (Kd.R_elder' (by (with_reducible repeat (first | apply Kd.R_alloc | apply Kd.R_drewN | apply Kd.R_drew)); exact HO166.out) (Kd.R_base ho0) hb); have n4_ := Aside0.mk (Kd.R_elder' (by (with_reducible repeat (first | apply Kd.R_alloc | apply Kd.R_drewN | apply Kd.R_drew)); exact HO177.out) (Kd.R_base ho0) hb); have n5_ := Aside0.mk (Kd.R_lower (Kd.R_new' (Kd.R_new' (Kd.R_new' (Kd.R_new' (Kd.R_new' ho0 (Kd.R_lt (by (with_reducible repeat (first | apply Kd.R_alloc | apply Kd.R_drewN | apply Kd.R_drew)); exact HO_1.out))) (Kd.R_lt (by (with_reducible repeat (first | apply Kd.R_alloc | apply Kd.R_drewN | apply Kd.R_drew)); exact HO_2.out))) (Kd.R_lt (by (with_reducible repeat (first | apply Kd.R_alloc | apply Kd.R_drewN | apply Kd.R_drew)); exact HO162.out))) (Kd.R_lt (by (with_reducible repeat (first | apply Kd.R_alloc | apply Kd.R_drewN | apply Kd.R_drew)); exact HO166.out))) (Kd.R_lt (by (with_reducible repeat (first | apply Kd.R_alloc | apply Kd.R_drewN | apply Kd.R_drew)); exact HO177.out))) (below_size (by repeat (first | (with_reducible first | exact HB.out | apply below_alloc | apply pw_below_drewN | apply below_drew1) | exact HB.out)))); have n6_ := Aside0.mk (below_step (by repeat (first | (with_reducible first | exact HB.out | apply below_alloc | apply pw_below_drewN | apply below_drew1) | exact HB.out)) hb); clear HO_1; clear HO_2; clear HO162; clear HO166; clear HO177; clear HB; have HO_1 := n0_; have HO_2 := n1_; have HO162 := n2_; have HO166 := n3_; have HO177 := n4_; have HO183 := n5_; have HB := n6_; clear n0_ n1_ n2_ n3_ n4_ n5_ n6_; (try clear hb); (try clear hb2); (try clear hk); (try clear hi); (try clear ho0); obtain ⟨Ao40, co40, eo40⟩ := Kd.R_slice HO183.out; subst eo40) | (go_at_call 8; (with_reducible refine (sum_Of.calls k1 _ _ t181 t184 _ ?side1 ?side2 A31.out).mono ?_); (case side1 => repeat (first | exact (Kd.R_reads' HO183.out).2.2 | (with_reducible refine Kd.C_alloc ?_ _) | (with_reducible refine Kd.C_drewN ?_ _) | (with_reducible refine Kd.C_drew ?_))); (case side2 => exact (Kd.R_reads' HO183.out).2.1); rintro e w' ⟨rfl, ⟨nd, rfl⟩⟩))
                        go_meet
                        case rel => exact ⟨_, ((t184 != 3251651376)), (by first | rfl | (simp; done) | (simp [*]; done)), H', ⟨by have := HK1.out; first | omega | exact Nat.le_refl _⟩, ⟨by (with_reducible repeat (first | apply Kd.R_alloc | apply Kd.R_drewN | apply Kd.R_drew)); exact Kd.R_mono HO_1.out (fun _ hk => hk.1.1.1.1)⟩, ⟨by (with_reducible repeat (first | apply Kd.R_alloc | apply Kd.R_drewN | apply Kd.R_drew)); exact Kd.R_mono HO_2.out (fun _ hk => hk.1.1.1.1)⟩, ⟨by repeat (first | (with_reducible first | exact HB.out | apply below_alloc | apply pw_below_drewN | apply below_drew1) | exact HB.out)⟩⟩
                      · rw [if_neg c29] at H
                        have c29b0 : (t180 == 1655221059) = false := beq_eq_false_iff_ne.mpr c29
                        have c29b1 : (t180 != 1655221059) = true := bne_iff_ne.mpr c29
                        have H' := Aside0.mk H
                        clear H
                        go_wp2_with (first | ((with_reducible refine gate_callee (f := 10) rfl ?_); refine goesL_ (some 32) rfl rfl Tryd.func10 (by kernel_rfl) rfl #[] rfl (by (try simp only [List.map_toArray, List.map_cons, List.map_nil]); first | done | rfl | (simp only [List.length_drop, List.length_take]; rfl)) ?_; (with_reducible refine (flotillalaw04_works.calls k1  true _ A19.out).mono ?_); rintro e w41 ⟨rfl, hb⟩; refine ⟨_, rfl, ?_⟩; have n0_ := Aside0.mk (Kd.R_below (by (with_reducible repeat (first | apply Kd.R_alloc | apply Kd.R_drewN | apply Kd.R_drew)); exact HO_1.out) hb); have n1_ := Aside0.mk (Kd.R_below (by (with_reducible repeat (first | apply Kd.R_alloc | apply Kd.R_drewN | apply Kd.R_drew)); exact HO_2.out) hb); have n2_ := Aside0.mk (Kd.R_below (by (with_reducible repeat (first | apply Kd.R_alloc | apply Kd.R_drewN | apply Kd.R_drew)); exact HO162.out) hb); have n3_ := Aside0.mk (Kd.R_below (by (with_reducible repeat (first | apply Kd.R_alloc | apply Kd.R_drewN | apply Kd.R_drew)); exact HO166.out) hb); have n4_ := Aside0.mk (below_step (by repeat (first | (with_reducible first | exact HB.out | apply below_alloc | apply pw_below_drewN | apply below_drew1) | exact HB.out)) hb); clear HO_1; clear HO_2; clear HO162; clear HO166; clear HB; have HO_1 := n0_; have HO_2 := n1_; have HO162 := n2_; have HO166 := n3_; have HB := n4_; clear n0_ n1_ n2_ n3_ n4_; (try clear hb); (try clear hb2); (try clear hk); (try clear hi); have CA22 := fun (W : World) (hGW : Go.Proofs.YtckihppdjoianaaDoor.As.Glob W) => flotillakit_Plain.calls t171 1 true W hGW A22.out; try simp only [errW_none, errW_some] at CA22) | (go_at_call 7; (with_reducible refine (CA22 _ (Go.Proofs.YtckihppdjoianaaDoor.As.Glob.below HGl.out (by repeat (first | (with_reducible first | exact HB.out | apply below_alloc | apply pw_below_drewN | apply below_drew1) | exact HB.out)))).mono ?_); rintro e w42 ⟨rfl, hb⟩; have n0_ := Aside0.mk (Kd.R_below (by (with_reducible repeat (first | apply Kd.R_alloc | apply Kd.R_drewN | apply Kd.R_drew)); exact HO_1.out) hb); have n1_ := Aside0.mk (Kd.R_below (by (with_reducible repeat (first | apply Kd.R_alloc | apply Kd.R_drewN | apply Kd.R_drew)); exact HO_2.out) hb); have n2_ := Aside0.mk (Kd.R_below (by (with_reducible repeat (first | apply Kd.R_alloc | apply Kd.R_drewN | apply Kd.R_drew)); exact HO162.out) hb); have n3_ := Aside0.mk (Kd.R_below (by (with_reducible repeat (first | apply Kd.R_alloc | apply Kd.R_drewN | apply Kd.R_drew)); exact HO166.out) hb); have n4_ := Aside0.mk (below_step (by repeat (first | (with_reducible first | exact HB.out | apply below_alloc | apply pw_below_drewN | apply below_drew1) | exact HB.out)) hb); clear HO_1; clear HO_2; clear HO162; clear HO166; clear HB; have HO_1 := n0_; have HO_2 := n1_; have HO162 := n2_; have HO166 := n3_; have HB := n4_; clear n0_ n1_ n2_ n3_ n4_; (try clear hb); (try clear hb2); (try clear hk); (try clear hi)) | ((with_reducible refine gate_dst (N := 48) rfl ?_); (try (refine gate_guard (by rfl) ?_; dsimp only)); refine Kd.R_lit (Kd.int .u8) _ 5 ?hg (N := 48) ?hd (xs := ([0] : List Int)) (inner := [.int .u8 0]) (ok := fun _ => True) (okp := fun _ => True) ?hr ?hp (fun _ hk => hk) trivial (Below.refl _ _) (Nat.le_refl _) (by simp) ?_; (case hd => rfl); (case hg => rfl); (case hr => first | (go_simp; done) | (go_simp; rfl)); (case hp => exact (Reps.one (show Kd.M (Kd.int .u8) _ _ _ 0 [.int .u8 0] from rfl) (Reps.none _ _))); intro v176 w43 ho44 hb hg_ hnew_; clear hg_ hnew_; (first | rw [← Ny175.out] at ho44 | (simp only [Int.reduceToNat] at ho44; rw [← Ny175.out] at ho44)); have n0_ := Aside0.mk (Kd.R_elder' (by (with_reducible repeat (first | apply Kd.R_alloc | apply Kd.R_drewN | apply Kd.R_drew)); exact HO_1.out) (Kd.R_base ho44) hb); have n1_ := Aside0.mk (Kd.R_elder' (by (with_reducible repeat (first | apply Kd.R_alloc | apply Kd.R_drewN | apply Kd.R_drew)); exact HO_2.out) (Kd.R_base ho44) hb); have n2_ := Aside0.mk (Kd.R_elder' (by (with_reducible repeat (first | apply Kd.R_alloc | apply Kd.R_drewN | apply Kd.R_drew)); exact HO162.out) (Kd.R_base ho44) hb); have n3_ := Aside0.mk (Kd.R_elder' (by (with_reducible repeat (first | apply Kd.R_alloc | apply Kd.R_drewN | apply Kd.R_drew)); exact HO166.out) (Kd.R_base ho44) hb); have n4_ := Aside0.mk (Kd.R_lower (Kd.R_new' (Kd.R_new' (Kd.R_new' (Kd.R_new' ho44 (Kd.R_lt (by (with_reducible repeat (first | apply Kd.R_alloc | apply Kd.R_drewN | apply Kd.R_drew)); exact HO_1.out))) (Kd.R_lt (by (with_reducible repeat (first | apply Kd.R_alloc | apply Kd.R_drewN | apply Kd.R_drew)); exact HO_2.out))) (Kd.R_lt (by (with_reducible repeat (first | apply Kd.R_alloc | apply Kd.R_drewN | apply Kd.R_drew)); exact HO162.out))) (Kd.R_lt (by (with_reducible repeat (first | apply Kd.R_alloc | apply Kd.R_drewN | apply Kd.R_drew)); exact HO166.out))) (below_size (by repeat (first | (with_reducible first | exact HB.out | apply below_alloc | apply pw_below_drewN | apply below_drew1) | exact HB.out)))); have n5_ := Aside0.mk (below_step (by repeat (first | (with_reducible first | exact HB.out | apply below_alloc | apply pw_below_drewN | apply below_drew1) | exact HB.out)) hb); clear HO_1; clear HO_2; clear HO162; clear HO166; clear HB; have HO_1 := n0_; have HO_2 := n1_; have HO162 := n2_; have HO166 := n3_; have HO177 := n4_; have HB := n5_; clear n0_ n1_ n2_ n3_ n4_ n5_; clear hb ho44; obtain ⟨Ao45, co45, eo45⟩ := Kd.R_slice HO177.out; subst eo45) | (go_at_call 8; (with_reducible refine (sum_Of.calls k1 _ _ y175 t178 _ ?side1 ?side2 A24.out).mono ?_); (case side1 => repeat (first | exact (Kd.R_reads' HO177.out).2.2 | (with_reducible refine Kd.C_alloc ?_ _) | (with_reducible refine Kd.C_drewN ?_ _) | (with_reducible refine Kd.C_drew ?_))); (case side2 => exact (Kd.R_reads' HO177.out).2.1); rintro e w' ⟨rfl, ⟨nd, rfl⟩⟩; obtain ⟨Ao46, co46, eo46⟩ := Kd.R_slice HO_1.out; subst eo46) | (go_at_call 8; (with_reducible refine (sum_Of.calls k1 _ _ x1_1 t179 _ ?side1 ?side2 A26.out).mono ?_); (case side1 => repeat (first | exact (Kd.R_reads' HO_1.out).2.2 | (with_reducible refine Kd.C_alloc ?_ _) | (with_reducible refine Kd.C_drewN ?_ _) | (with_reducible refine Kd.C_drew ?_))); (case side2 => exact (Kd.R_reads' HO_1.out).2.1); rintro e w' ⟨rfl, ⟨nd, rfl⟩⟩; obtain ⟨Ao47, co47, eo47⟩ := Kd.R_slice HO_2.out; subst eo47) | (go_at_call 8; (with_reducible refine (sum_Of.calls k1 _ _ x2_1 t180 _ ?side1 ?side2 A28.out).mono ?_); (case side1 => repeat (first | exact (Kd.R_reads' HO_2.out).2.2 | (with_reducible refine Kd.C_alloc ?_ _) | (with_reducible refine Kd.C_drewN ?_ _) | (with_reducible refine Kd.C_drew ?_))); (case side2 => exact (Kd.R_reads' HO_2.out).2.1); rintro e w' ⟨rfl, ⟨nd, rfl⟩⟩))
                        go_meet
                        case rel => exact ⟨_, (true), (by first | rfl | (simp; done) | (simp [*]; done)), H', ⟨by have := HK1.out; first | omega | exact Nat.le_refl _⟩, ⟨by (with_reducible repeat (first | apply Kd.R_alloc | apply Kd.R_drewN | apply Kd.R_drew)); exact Kd.R_mono HO_1.out (fun _ hk => hk.1.1.1)⟩, ⟨by (with_reducible repeat (first | apply Kd.R_alloc | apply Kd.R_drewN | apply Kd.R_drew)); exact Kd.R_mono HO_2.out (fun _ hk => hk.1.1.1)⟩, ⟨by repeat (first | (with_reducible first | exact HB.out | apply below_alloc | apply pw_below_drewN | apply below_drew1) | exact HB.out)⟩⟩
                    · rw [if_neg c27] at H
                      have c27b0 : (t179 == 2324772522) = false := beq_eq_false_iff_ne.mpr c27
                      have c27b1 : (t179 != 2324772522) = true := bne_iff_ne.mpr c27
                      have H' := Aside0.mk H
                      clear H
                      go_wp2_with (first | ((with_reducible refine gate_callee (f := 10) rfl ?_); refine goesL_ (some 32) rfl rfl Tryd.func10 (by kernel_rfl) rfl #[] rfl (by (try simp only [List.map_toArray, List.map_cons, List.map_nil]); first | done | rfl | (simp only [List.length_drop, List.length_take]; rfl)) ?_; (with_reducible refine (flotillalaw04_works.calls k1  true _ A19.out).mono ?_); rintro e w48 ⟨rfl, hb⟩; refine ⟨_, rfl, ?_⟩; have n0_ := Aside0.mk (Kd.R_below (by (with_reducible repeat (first | apply Kd.R_alloc | apply Kd.R_drewN | apply Kd.R_drew)); exact HO_1.out) hb); have n1_ := Aside0.mk (Kd.R_below (by (with_reducible repeat (first | apply Kd.R_alloc | apply Kd.R_drewN | apply Kd.R_drew)); exact HO_2.out) hb); have n2_ := Aside0.mk (Kd.R_below (by (with_reducible repeat (first | apply Kd.R_alloc | apply Kd.R_drewN | apply Kd.R_drew)); exact HO162.out) hb); have n3_ := Aside0.mk (Kd.R_below (by (with_reducible repeat (first | apply Kd.R_alloc | apply Kd.R_drewN | apply Kd.R_drew)); exact HO166.out) hb); have n4_ := Aside0.mk (below_step (by repeat (first | (with_reducible first | exact HB.out | apply below_alloc | apply pw_below_drewN | apply below_drew1) | exact HB.out)) hb); clear HO_1; clear HO_2; clear HO162; clear HO166; clear HB; have HO_1 := n0_; have HO_2 := n1_; have HO162 := n2_; have HO166 := n3_; have HB := n4_; clear n0_ n1_ n2_ n3_ n4_; (try clear hb); (try clear hb2); (try clear hk); (try clear hi); have CA22 := fun (W : World) (hGW : Go.Proofs.YtckihppdjoianaaDoor.As.Glob W) => flotillakit_Plain.calls t171 1 true W hGW A22.out; try simp only [errW_none, errW_some] at CA22) | (go_at_call 7; (with_reducible refine (CA22 _ (Go.Proofs.YtckihppdjoianaaDoor.As.Glob.below HGl.out (by repeat (first | (with_reducible first | exact HB.out | apply below_alloc | apply pw_below_drewN | apply below_drew1) | exact HB.out)))).mono ?_); rintro e w49 ⟨rfl, hb⟩; have n0_ := Aside0.mk (Kd.R_below (by (with_reducible repeat (first | apply Kd.R_alloc | apply Kd.R_drewN | apply Kd.R_drew)); exact HO_1.out) hb); have n1_ := Aside0.mk (Kd.R_below (by (with_reducible repeat (first | apply Kd.R_alloc | apply Kd.R_drewN | apply Kd.R_drew)); exact HO_2.out) hb); have n2_ := Aside0.mk (Kd.R_below (by (with_reducible repeat (first | apply Kd.R_alloc | apply Kd.R_drewN | apply Kd.R_drew)); exact HO162.out) hb); have n3_ := Aside0.mk (Kd.R_below (by (with_reducible repeat (first | apply Kd.R_alloc | apply Kd.R_drewN | apply Kd.R_drew)); exact HO166.out) hb); have n4_ := Aside0.mk (below_step (by repeat (first | (with_reducible first | exact HB.out | apply below_alloc | apply pw_below_drewN | apply below_drew1) | exact HB.out)) hb); clear HO_1; clear HO_2; clear HO162; clear HO166; clear HB; have HO_1 := n0_; have HO_2 := n1_; have HO162 := n2_; have HO166 := n3_; have HB := n4_; clear n0_ n1_ n2_ n3_ n4_; (try clear hb); (try clear hb2); (try clear hk); (try clear hi)) | ((with_reducible refine gate_dst (N := 48) rfl ?_); (try (refine gate_guard (by rfl) ?_; dsimp only)); refine Kd.R_lit (Kd.int .u8) _ 5 ?hg (N := 48) ?hd (xs := ([0] : List Int)) (inner := [.int .u8 0]) (ok := fun _ => True) (okp := fun _ => True) ?hr ?hp (fun _ hk => hk) trivial (Below.refl _ _) (Nat.le_refl _) (by simp) ?_; (case hd => rfl); (case hg => rfl); (case hr => first | (go_simp; done) | (go_simp; rfl)); (case hp => exact (Reps.one (show Kd.M (Kd.int .u8) _ _ _ 0 [.int .u8 0] from rfl) (Reps.none _ _))); intro v176 w50 ho51 hb hg_ hnew_; clear hg_ hnew_; (first | rw [← Ny175.out] at ho51 | (simp only [Int.reduceToNat] at ho51; rw [← Ny175.out] at ho51)); have n0_ := Aside0.mk (Kd.R_elder' (by (with_reducible repeat (first | apply Kd.R_alloc | apply Kd.R_drewN | apply Kd.R_drew)); exact HO_1.out) (Kd.R_base ho51) hb); have n1_ := Aside0.mk (Kd.R_elder' (by (with_reducible repeat (first | apply Kd.R_alloc | apply Kd.R_drewN | apply Kd.R_drew)); exact HO_2.out) (Kd.R_base ho51) hb); have n2_ := Aside0.mk (Kd.R_elder' (by (with_reducible repeat (first | apply Kd.R_alloc | apply Kd.R_drewN | apply Kd.R_drew)); exact HO162.out) (Kd.R_base ho51) hb); have n3_ := Aside0.mk (Kd.R_elder' (by (with_reducible repeat (first | apply Kd.R_alloc | apply Kd.R_drewN | apply Kd.R_drew)); exact HO166.out) (Kd.R_base ho51) hb); have n4_ := Aside0.mk (Kd.R_lower (Kd.R_new' (Kd.R_new' (Kd.R_new' (Kd.R_new' ho51 (Kd.R_lt (by (with_reducible repeat (first | apply Kd.R_alloc | apply Kd.R_drewN | apply Kd.R_drew)); exact HO_1.out))) (Kd.R_lt (by (with_reducible repeat (first | apply Kd.R_alloc | apply Kd.R_drewN | apply Kd.R_drew)); exact HO_2.out))) (Kd.R_lt (by (with_reducible repeat (first | apply Kd.R_alloc | apply Kd.R_drewN | apply Kd.R_drew)); exact HO162.out))) (Kd.R_lt (by (with_reducible repeat (first | apply Kd.R_alloc | apply Kd.R_drewN | apply Kd.R_drew)); exact HO166.out))) (below_size (by repeat (first | (with_reducible first | exact HB.out | apply below_alloc | apply pw_below_drewN | apply below_drew1) | exact HB.out)))); have n5_ := Aside0.mk (below_step (by repeat (first | (with_reducible first | exact HB.out | apply below_alloc | apply pw_below_drewN | apply below_drew1) | exact HB.out)) hb); clear HO_1; clear HO_2; clear HO162; clear HO166; clear HB; have HO_1 := n0_; have HO_2 := n1_; have HO162 := n2_; have HO166 := n3_; have HO177 := n4_; have HB := n5_; clear n0_ n1_ n2_ n3_ n4_ n5_; clear hb ho51; obtain ⟨Ao52, co52, eo52⟩ := Kd.R_slice HO177.out; subst eo52) | (go_at_call 8; (with_reducible refine (sum_Of.calls k1 _ _ y175 t178 _ ?side1 ?side2 A24.out).mono ?_); (case side1 => repeat (first | exact (Kd.R_reads' HO177.out).2.2 | (with_reducible refine Kd.C_alloc ?_ _) | (with_reducible refine Kd.C_drewN ?_ _) | (with_reducible refine Kd.C_drew ?_))); (case side2 => exact (Kd.R_reads' HO177.out).2.1); rintro e w' ⟨rfl, ⟨nd, rfl⟩⟩; obtain ⟨Ao53, co53, eo53⟩ := Kd.R_slice HO_1.out; subst eo53) | (go_at_call 8; (with_reducible refine (sum_Of.calls k1 _ _ x1_1 t179 _ ?side1 ?side2 A26.out).mono ?_); (case side1 => repeat (first | exact (Kd.R_reads' HO_1.out).2.2 | (with_reducible refine Kd.C_alloc ?_ _) | (with_reducible refine Kd.C_drewN ?_ _) | (with_reducible refine Kd.C_drew ?_))); (case side2 => exact (Kd.R_reads' HO_1.out).2.1); rintro e w' ⟨rfl, ⟨nd, rfl⟩⟩))
                      go_meet
                      case rel => exact ⟨_, (true), (by first | rfl | (simp; done) | (simp [*]; done)), H', ⟨by have := HK1.out; first | omega | exact Nat.le_refl _⟩, ⟨by (with_reducible repeat (first | apply Kd.R_alloc | apply Kd.R_drewN | apply Kd.R_drew)); exact Kd.R_mono HO_1.out (fun _ hk => hk.1.1.1)⟩, ⟨by (with_reducible repeat (first | apply Kd.R_alloc | apply Kd.R_drewN | apply Kd.R_drew)); exact Kd.R_mono HO_2.out (fun _ hk => hk.1.1.1)⟩, ⟨by repeat (first | (with_reducible first | exact HB.out | apply below_alloc | apply pw_below_drewN | apply below_drew1) | exact HB.out)⟩⟩
                  · rw [if_neg c25] at H
                    have c25b0 : (t178 == 1383945041) = false := beq_eq_false_iff_ne.mpr c25
                    have c25b1 : (t178 != 1383945041) = true := bne_iff_ne.mpr c25
                    have H' := Aside0.mk H
                    clear H
                    go_wp2_with (first | ((with_reducible refine gate_callee (f := 10) rfl ?_); refine goesL_ (some 32) rfl rfl Tryd.func10 (by kernel_rfl) rfl #[] rfl (by (try simp only [List.map_toArray, List.map_cons, List.map_nil]); first | done | rfl | (simp only [List.length_drop, List.length_take]; rfl)) ?_; (with_reducible refine (flotillalaw04_works.calls k1  true _ A19.out).mono ?_); rintro e w54 ⟨rfl, hb⟩; refine ⟨_, rfl, ?_⟩; have n0_ := Aside0.mk (Kd.R_below (by (with_reducible repeat (first | apply Kd.R_alloc | apply Kd.R_drewN | apply Kd.R_drew)); exact HO_1.out) hb); have n1_ := Aside0.mk (Kd.R_below (by (with_reducible repeat (first | apply Kd.R_alloc | apply Kd.R_drewN | apply Kd.R_drew)); exact HO_2.out) hb); have n2_ := Aside0.mk (Kd.R_below (by (with_reducible repeat (first | apply Kd.R_alloc | apply Kd.R_drewN | apply Kd.R_drew)); exact HO162.out) hb); have n3_ := Aside0.mk (Kd.R_below (by (with_reducible repeat (first | apply Kd.R_alloc | apply Kd.R_drewN | apply Kd.R_drew)); exact HO166.out) hb); have n4_ := Aside0.mk (below_step (by repeat (first | (with_reducible first | exact HB.out | apply below_alloc | apply pw_below_drewN | apply below_drew1) | exact HB.out)) hb); clear HO_1; clear HO_2; clear HO162; clear HO166; clear HB; have HO_1 := n0_; have HO_2 := n1_; have HO162 := n2_; have HO166 := n3_; have HB := n4_; clear n0_ n1_ n2_ n3_ n4_; (try clear hb); (try clear hb2); (try clear hk); (try clear hi); have CA22 := fun (W : World) (hGW : Go.Proofs.YtckihppdjoianaaDoor.As.Glob W) => flotillakit_Plain.calls t171 1 true W hGW A22.out; try simp only [errW_none, errW_some] at CA22) | (go_at_call 7; (with_reducible refine (CA22 _ (Go.Proofs.YtckihppdjoianaaDoor.As.Glob.below HGl.out (by repeat (first | (with_reducible first | exact HB.out | apply below_alloc | apply pw_below_drewN | apply below_drew1) | exact HB.out)))).mono ?_); rintro e w55 ⟨rfl, hb⟩; have n0_ := Aside0.mk (Kd.R_below (by (with_reducible repeat (first | apply Kd.R_alloc | apply Kd.R_drewN | apply Kd.R_drew)); exact HO_1.out) hb); have n1_ := Aside0.mk (Kd.R_below (by (with_reducible repeat (first | apply Kd.R_alloc | apply Kd.R_drewN | apply Kd.R_drew)); exact HO_2.out) hb); have n2_ := Aside0.mk (Kd.R_below (by (with_reducible repeat (first | apply Kd.R_alloc | apply Kd.R_drewN | apply Kd.R_drew)); exact HO162.out) hb); have n3_ := Aside0.mk (Kd.R_below (by (with_reducible repeat (first | apply Kd.R_alloc | apply Kd.R_drewN | apply Kd.R_drew)); exact HO166.out) hb); have n4_ := Aside0.mk (below_step (by repeat (first | (with_reducible first | exact HB.out | apply below_alloc | apply pw_below_drewN | apply below_drew1) | exact HB.out)) hb); clear HO_1; clear HO_2; clear HO162; clear HO166; clear HB; have HO_1 := n0_; have HO_2 := n1_; have HO162 := n2_; have HO166 := n3_; have HB := n4_; clear n0_ n1_ n2_ n3_ n4_; (try clear hb); (try clear hb2); (try clear hk); (try clear hi)) | ((with_reducible refine gate_dst (N := 48) rfl ?_); (try (refine gate_guard (by rfl) ?_; dsimp only)); refine Kd.R_lit (Kd.int .u8) _ 5 ?hg (N := 48) ?hd (xs := ([0] : List Int)) (inner := [.int .u8 0]) (ok := fun _ => True) (okp := fun _ => True) ?hr ?hp (fun _ hk => hk) trivial (Below.refl _ _) (Nat.le_refl _) (by simp) ?_; (case hd => rfl); (case hg => rfl); (case hr => first | (go_simp; done) | (go_simp; rfl)); (case hp => exact (Reps.one (show Kd.M (Kd.int .u8) _ _ _ 0 [.int .u8 0] from rfl) (Reps.none _ _))); intro v176 w56 ho57 hb hg_ hnew_; clear hg_ hnew_; (first | rw [← Ny175.out] at ho57 | (simp only [Int.reduceToNat] at ho57; rw [← Ny175.out] at ho57)); have n0_ := Aside0.mk (Kd.R_elder' (by (with_reducible repeat (first | apply Kd.R_alloc | apply Kd.R_drewN | apply Kd.R_drew)); exact HO_1.out) (Kd.R_base ho57) hb); have n1_ := Aside0.mk (Kd.R_elder' (by (with_reducible repeat (first | apply Kd.R_alloc | apply Kd.R_drewN | apply Kd.R_drew)); exact HO_2.out) (Kd.R_base ho57) hb); have n2_ := Aside0.mk (Kd.R_elder' (by (with_reducible repeat (first | apply Kd.R_alloc | apply Kd.R_drewN | apply Kd.R_drew)); exact HO162.out) (Kd.R_base ho57) hb); have n3_ := Aside0.mk (Kd.R_elder' (by (with_reducible repeat (first | apply Kd.R_alloc | apply Kd.R_drewN | apply Kd.R_drew)); exact HO166.out) (Kd.R_base ho57) hb); have n4_ := Aside0.mk (Kd.R_lower (Kd.R_new' (Kd.R_new' (Kd.R_new' (Kd.R_new' ho57 (Kd.R_lt (by (with_reducible repeat (first | apply Kd.R_alloc | apply Kd.R_drewN | apply Kd.R_drew)); exact HO_1.out))) (Kd.R_lt (by (with_reducible repeat (first | apply Kd.R_alloc | apply Kd.R_drewN | apply Kd.R_drew)); exact HO_2.out))) (Kd.R_lt (by (with_reducible repeat (first | apply Kd.R_alloc | apply Kd.R_drewN | apply Kd.R_drew)); exact HO162.out))) (Kd.R_lt (by (with_reducible repeat (first | apply Kd.R_alloc | apply Kd.R_drewN | apply Kd.R_drew)); exact HO166.out))) (below_size (by repeat (first | (with_reducible first | exact HB.out | apply below_alloc | apply pw_below_drewN | apply below_drew1) | exact HB.out)))); have n5_ := Aside0.mk (below_step (by repeat (first | (with_reducible first | exact HB.out | apply below_alloc | apply pw_below_drewN | apply below_drew1) | exact HB.out)) hb); clear HO_1; clear HO_2; clear HO162; clear HO166; clear HB; have HO_1 := n0_; have HO_2 := n1_; have HO162 := n2_; have HO166 := n3_; have HO177 := n4_; have HB := n5_; clear n0_ n1_ n2_ n3_ n4_ n5_; clear hb ho57; obtain ⟨Ao58, co58, eo58⟩ := Kd.R_slice HO177.out; subst eo58) | (go_at_call 8; (with_reducible refine (sum_Of.calls k1 _ _ y175 t178 _ ?side1 ?side2 A24.out).mono ?_); (case side1 => repeat (first | exact (Kd.R_reads' HO177.out).2.2 | (with_reducible refine Kd.C_alloc ?_ _) | (with_reducible refine Kd.C_drewN ?_ _) | (with_reducible refine Kd.C_drew ?_))); (case side2 => exact (Kd.R_reads' HO177.out).2.1); rintro e w' ⟨rfl, ⟨nd, rfl⟩⟩))
                    go_meet
                    case rel => exact ⟨_, (true), (by first | rfl | (simp; done) | (simp [*]; done)), H', ⟨by have := HK1.out; first | omega | exact Nat.le_refl _⟩, ⟨by (with_reducible repeat (first | apply Kd.R_alloc | apply Kd.R_drewN | apply Kd.R_drew)); exact Kd.R_mono HO_1.out (fun _ hk => hk.1.1.1)⟩, ⟨by (with_reducible repeat (first | apply Kd.R_alloc | apply Kd.R_drewN | apply Kd.R_drew)); exact Kd.R_mono HO_2.out (fun _ hk => hk.1.1.1)⟩, ⟨by repeat (first | (with_reducible first | exact HB.out | apply below_alloc | apply pw_below_drewN | apply below_drew1) | exact HB.out)⟩⟩
                · replace c23 := Bool.eq_false_iff.mpr c23
                  subst c23
                  have H1 : (flotillalaw04_SumKnown.j1 k1 x1_1 x2_1 true) = some r := by rw [if_neg (show ¬ (false = true) by decide)] at H; exact H
                  clear H
                  have H := H1
                  clear H1
                  have H' := Aside0.mk H
                  clear H
                  go_wp2_with (first | ((with_reducible refine gate_callee (f := 10) rfl ?_); refine goesL_ (some 32) rfl rfl Tryd.func10 (by kernel_rfl) rfl #[] rfl (by (try simp only [List.map_toArray, List.map_cons, List.map_nil]); first | done | rfl | (simp only [List.length_drop, List.length_take]; rfl)) ?_; (with_reducible refine (flotillalaw04_works.calls k1  true _ A19.out).mono ?_); rintro e w59 ⟨rfl, hb⟩; refine ⟨_, rfl, ?_⟩; have n0_ := Aside0.mk (Kd.R_below (by (with_reducible repeat (first | apply Kd.R_alloc | apply Kd.R_drewN | apply Kd.R_drew)); exact HO_1.out) hb); have n1_ := Aside0.mk (Kd.R_below (by (with_reducible repeat (first | apply Kd.R_alloc | apply Kd.R_drewN | apply Kd.R_drew)); exact HO_2.out) hb); have n2_ := Aside0.mk (Kd.R_below (by (with_reducible repeat (first | apply Kd.R_alloc | apply Kd.R_drewN | apply Kd.R_drew)); exact HO162.out) hb); have n3_ := Aside0.mk (Kd.R_below (by (with_reducible repeat (first | apply Kd.R_alloc | apply Kd.R_drewN | apply Kd.R_drew)); exact HO166.out) hb); have n4_ := Aside0.mk (below_step (by repeat (first | (with_reducible first | exact HB.out | apply below_alloc | apply pw_below_drewN | apply below_drew1) | exact HB.out)) hb); clear HO_1; clear HO_2; clear HO162; clear HO166; clear HB; have HO_1 := n0_; have HO_2 := n1_; have HO162 := n2_; have HO166 := n3_; have HB := n4_; clear n0_ n1_ n2_ n3_ n4_; (try clear hb); (try clear hb2); (try clear hk); (try clear hi); have CA22 := fun (W : World) (hGW : Go.Proofs.YtckihppdjoianaaDoor.As.Glob W) => flotillakit_Plain.calls t171 1 false W hGW A22.out; try simp only [errW_none, errW_some] at CA22) | (go_at_call 7; (with_reducible refine (CA22 _ (Go.Proofs.YtckihppdjoianaaDoor.As.Glob.below HGl.out (by repeat (first | (with_reducible first | exact HB.out | apply below_alloc | apply pw_below_drewN | apply below_drew1) | exact HB.out)))).mono ?_); rintro e w60 ⟨rfl, hb⟩; have n0_ := Aside0.mk (Kd.R_below (by (with_reducible repeat (first | apply Kd.R_alloc | apply Kd.R_drewN | apply Kd.R_drew)); exact HO_1.out) hb); have n1_ := Aside0.mk (Kd.R_below (by (with_reducible repeat (first | apply Kd.R_alloc | apply Kd.R_drewN | apply Kd.R_drew)); exact HO_2.out) hb); have n2_ := Aside0.mk (Kd.R_below (by (with_reducible repeat (first | apply Kd.R_alloc | apply Kd.R_drewN | apply Kd.R_drew)); exact HO162.out) hb); have n3_ := Aside0.mk (Kd.R_below (by (with_reducible repeat (first | apply Kd.R_alloc | apply Kd.R_drewN | apply Kd.R_drew)); exact HO166.out) hb); have n4_ := Aside0.mk (below_step (by repeat (first | (with_reducible first | exact HB.out | apply below_alloc | apply pw_below_drewN | apply below_drew1) | exact HB.out)) hb); clear HO_1; clear HO_2; clear HO162; clear HO166; clear HB; have HO_1 := n0_; have HO_2 := n1_; have HO162 := n2_; have HO166 := n3_; have HB := n4_; clear n0_ n1_ n2_ n3_ n4_; (try clear hb); (try clear hb2); (try clear hk); (try clear hi)))
                  go_meet
                  case rel => exact ⟨_, (true), (by first | rfl | (simp; done) | (simp [*]; done)), H', ⟨by have := HK1.out; first | omega | exact Nat.le_refl _⟩, ⟨by (with_reducible repeat (first | apply Kd.R_alloc | apply Kd.R_drewN | apply Kd.R_drew)); exact Kd.R_mono HO_1.out (fun _ hk => hk.1.1)⟩, ⟨by (with_reducible repeat (first | apply Kd.R_alloc | apply Kd.R_drewN | apply Kd.R_drew)); exact Kd.R_mono HO_2.out (fun _ hk => hk.1.1)⟩, ⟨by repeat (first | (with_reducible first | exact HB.out | apply below_alloc | apply pw_below_drewN | apply below_drew1) | exact HB.out)⟩⟩
              · rw [if_neg c21] at H
                have c21b0 : (t168 == 3808858755) = false := beq_eq_false_iff_ne.mpr c21
                have c21b1 : (t168 != 3808858755) = true := bne_iff_ne.mpr c21
                (first | rw [c21b0] | (simp only [i64_w, i32_w]; rw [c21b0]) | skip)
                have H' := Aside0.mk H
                clear H
                go_wp2_with (first | ((with_reducible refine gate_callee (f := 10) rfl ?_); refine goesL_ (some 32) rfl rfl Tryd.func10 (by kernel_rfl) rfl #[] rfl (by (try simp only [List.map_toArray, List.map_cons, List.map_nil]); first | done | rfl | (simp only [List.length_drop, List.length_take]; rfl)) ?_; (with_reducible refine (flotillalaw04_works.calls k1  true _ A19.out).mono ?_); rintro e w61 ⟨rfl, hb⟩; refine ⟨_, rfl, ?_⟩; have n0_ := Aside0.mk (Kd.R_below (by (with_reducible repeat (first | apply Kd.R_alloc | apply Kd.R_drewN | apply Kd.R_drew)); exact HO_1.out) hb); have n1_ := Aside0.mk (Kd.R_below (by (with_reducible repeat (first | apply Kd.R_alloc | apply Kd.R_drewN | apply Kd.R_drew)); exact HO_2.out) hb); have n2_ := Aside0.mk (Kd.R_below (by (with_reducible repeat (first | apply Kd.R_alloc | apply Kd.R_drewN | apply Kd.R_drew)); exact HO162.out) hb); have n3_ := Aside0.mk (Kd.R_below (by (with_reducible repeat (first | apply Kd.R_alloc | apply Kd.R_drewN | apply Kd.R_drew)); exact HO166.out) hb); have n4_ := Aside0.mk (below_step (by repeat (first | (with_reducible first | exact HB.out | apply below_alloc | apply pw_below_drewN | apply below_drew1) | exact HB.out)) hb); clear HO_1; clear HO_2; clear HO162; clear HO166; clear HB; have HO_1 := n0_; have HO_2 := n1_; have HO162 := n2_; have HO166 := n3_; have HB := n4_; clear n0_ n1_ n2_ n3_ n4_; (try clear hb); (try clear hb2); (try clear hk); (try clear hi)))
                go_meet
                case rel => exact ⟨_, (true), (by first | rfl | (simp; done) | (simp [*]; done)), H', ⟨by have := HK1.out; first | omega | exact Nat.le_refl _⟩, ⟨by (with_reducible repeat (first | apply Kd.R_alloc | apply Kd.R_drewN | apply Kd.R_drew)); exact Kd.R_mono HO_1.out (fun _ hk => hk.1.1)⟩, ⟨by (with_reducible repeat (first | apply Kd.R_alloc | apply Kd.R_drewN | apply Kd.R_drew)); exact Kd.R_mono HO_2.out (fun _ hk => hk.1.1)⟩, ⟨by repeat (first | (with_reducible first | exact HB.out | apply below_alloc | apply pw_below_drewN | apply below_drew1) | exact HB.out)⟩⟩
            · have H1 : (flotillalaw04_SumKnown.j1 k1 x1_1 x2_1 true) = some r := by rw [if_neg (show ¬ (some q173).isNone = true by simp)] at H; exact H
              clear H
              have H := H1
              clear H1
              try simp only [errW_none, errW_some]
              have H' := Aside0.mk H
              clear H
              go_wp2_with (first | ((with_reducible refine gate_callee (f := 10) rfl ?_); refine goesL_ (some 32) rfl rfl Tryd.func10 (by kernel_rfl) rfl #[] rfl (by (try simp only [List.map_toArray, List.map_cons, List.map_nil]); first | done | rfl | (simp only [List.length_drop, List.length_take]; rfl)) ?_; (with_reducible refine (flotillalaw04_works.calls k1  true _ A19.out).mono ?_); rintro e w62 ⟨rfl, hb⟩; refine ⟨_, rfl, ?_⟩; have n0_ := Aside0.mk (Kd.R_below (by (with_reducible repeat (first | apply Kd.R_alloc | apply Kd.R_drewN | apply Kd.R_drew)); exact HO_1.out) hb); have n1_ := Aside0.mk (Kd.R_below (by (with_reducible repeat (first | apply Kd.R_alloc | apply Kd.R_drewN | apply Kd.R_drew)); exact HO_2.out) hb); have n2_ := Aside0.mk (Kd.R_below (by (with_reducible repeat (first | apply Kd.R_alloc | apply Kd.R_drewN | apply Kd.R_drew)); exact HO162.out) hb); have n3_ := Aside0.mk (Kd.R_below (by (with_reducible repeat (first | apply Kd.R_alloc | apply Kd.R_drewN | apply Kd.R_drew)); exact HO166.out) hb); have n4_ := Aside0.mk (below_step (by repeat (first | (with_reducible first | exact HB.out | apply below_alloc | apply pw_below_drewN | apply below_drew1) | exact HB.out)) hb); clear HO_1; clear HO_2; clear HO162; clear HO166; clear HB; have HO_1 := n0_; have HO_2 := n1_; have HO162 := n2_; have HO166 := n3_; have HB := n4_; clear n0_ n1_ n2_ n3_ n4_; (try clear hb); (try clear hb2); (try clear hk); (try clear hi)))
              go_meet
              case rel => exact ⟨_, (true), (by first | rfl | (simp; done) | (simp [*]; done)), H', ⟨by have := HK1.out; first | omega | exact Nat.le_refl _⟩, ⟨by (with_reducible repeat (first | apply Kd.R_alloc | apply Kd.R_drewN | apply Kd.R_drew)); exact Kd.R_mono HO_1.out (fun _ hk => hk.1.1)⟩, ⟨by (with_reducible repeat (first | apply Kd.R_alloc | apply Kd.R_drewN | apply Kd.R_drew)); exact Kd.R_mono HO_2.out (fun _ hk => hk.1.1)⟩, ⟨by repeat (first | (with_reducible first | exact HB.out | apply below_alloc | apply pw_below_drewN | apply below_drew1) | exact HB.out)⟩⟩
          · replace c20 := Bool.eq_false_iff.mpr c20
            subst c20
            have H1 : (flotillalaw04_SumKnown.j1 k1 x1_1 x2_1 true) = some r := by rw [if_neg (show ¬ (false = true) by decide)] at H; exact H
            clear H
            have H := H1
            clear H1
            have H' := Aside0.mk H
            clear H
            go_wp2_with (first | ((with_reducible refine gate_callee (f := 10) rfl ?_); refine goesL_ (some 32) rfl rfl Tryd.func10 (by kernel_rfl) rfl #[] rfl (by (try simp only [List.map_toArray, List.map_cons, List.map_nil]); first | done | rfl | (simp only [List.length_drop, List.length_take]; rfl)) ?_; (with_reducible refine (flotillalaw04_works.calls k1  false _ A19.out).mono ?_); rintro e w63 ⟨rfl, hb⟩; refine ⟨_, rfl, ?_⟩; have n0_ := Aside0.mk (Kd.R_below (by (with_reducible repeat (first | apply Kd.R_alloc | apply Kd.R_drewN | apply Kd.R_drew)); exact HO_1.out) hb); have n1_ := Aside0.mk (Kd.R_below (by (with_reducible repeat (first | apply Kd.R_alloc | apply Kd.R_drewN | apply Kd.R_drew)); exact HO_2.out) hb); have n2_ := Aside0.mk (Kd.R_below (by (with_reducible repeat (first | apply Kd.R_alloc | apply Kd.R_drewN | apply Kd.R_drew)); exact HO162.out) hb); have n3_ := Aside0.mk (Kd.R_below (by (with_reducible repeat (first | apply Kd.R_alloc | apply Kd.R_drewN | apply Kd.R_drew)); exact HO166.out) hb); have n4_ := Aside0.mk (below_step (by repeat (first | (with_reducible first | exact HB.out | apply below_alloc | apply pw_below_drewN | apply below_drew1) | exact HB.out)) hb); clear HO_1; clear HO_2; clear HO162; clear HO166; clear HB; have HO_1 := n0_; have HO_2 := n1_; have HO162 := n2_; have HO166 := n3_; have HB := n4_; clear n0_ n1_ n2_ n3_ n4_; (try clear hb); (try clear hb2); (try clear hk); (try clear hi)))
            go_meet
            case rel => exact ⟨_, (true), (by first | rfl | (simp; done) | (simp [*]; done)), H', ⟨by have := HK1.out; first | omega | exact Nat.le_refl _⟩, ⟨by (with_reducible repeat (first | apply Kd.R_alloc | apply Kd.R_drewN | apply Kd.R_drew)); exact Kd.R_mono HO_1.out (fun _ hk => hk.1.1)⟩, ⟨by (with_reducible repeat (first | apply Kd.R_alloc | apply Kd.R_drewN | apply Kd.R_drew)); exact Kd.R_mono HO_2.out (fun _ hk => hk.1.1)⟩, ⟨by repeat (first | (with_reducible first | exact HB.out | apply below_alloc | apply pw_below_drewN | apply below_drew1) | exact HB.out)⟩⟩
        case rest =>
          clear HC12
          try clear c1
          try clear c1b0
          try clear q1
          try clear c2
          try clear p2
          try clear c3
          try clear c4
          try clear c5
          try clear p6
          try clear c8
          try clear c9
          try clear c10
          try clear q17
          try clear c20
          try clear c21
          try clear c21b0
          try clear c21b1
          try clear c23
          try clear c25
          try clear c25b0
          try clear c25b1
          try clear c27
          try clear c27b0
          try clear c27b1
          try clear c29
          try clear c29b0
          try clear c29b1
          try clear q173
          obtain ⟨kq, x66_11, rfl, HA, HJ11, HO_1, HO_2, HB⟩ := hcut
          cases kq with
          | zero => exact absurd HA.out (by simp [flotillalaw04_SumKnown.j1])
          | succ kj11 =>
            have H := HA.out
            clear HA
            simp only [flotillalaw04_SumKnown.j1] at H
            by_cases c64 : x66_11 = true
            · subst c64
              have H1 : (none) = some r := by rw [if_pos rfl] at H; exact H
              clear H
              have H := H1
              clear H1
              exact absurd H (by simp)
            · replace c64 := Bool.eq_false_iff.mpr c64
              subst c64
              have H1 : (flotillalaw04_SumKnown.l1 kj11 x1_1 x2_1 0) = some r := by rw [if_neg (show ¬ (false = true) by decide)] at H; exact H
              clear H
              have H := H1
              clear H1
              have H' := Aside0.mk H
              clear H
              go_wp2
              go_loopg [8] kj11 (fun kq v8 w' => ∃ (x8_3 : Int), v8 = .int .i64 x8_3 ∧ Aside0 (flotillalaw04_SumKnown.l1 kq x1_1 x2_1 x8_3 = some r) ∧ Aside0 (kq ≤ kj11) ∧ Aside0 (Kd.R (Kd.int .u8) 5 w' w.heap.size (fun k_ => some k_ ≠ (u2 : Value).ownBlock) u1 x1_1) ∧ Aside0 (Kd.R (Kd.int .u8) 5 w' w.heap.size (fun k_ => some k_ ≠ (u1 : Value).ownBlock) u2 x2_1) ∧ Aside0 (Below w.heap.size w w'))
              case atStart => exact ⟨(0), (by first | rfl | (simp; done) | (simp [*]; done)), H', ⟨Nat.le_refl _⟩, ⟨by (with_reducible repeat (first | apply Kd.R_alloc | apply Kd.R_drewN | apply Kd.R_drew)); exact HO_1.out⟩, ⟨by (with_reducible repeat (first | apply Kd.R_alloc | apply Kd.R_drewN | apply Kd.R_drew)); exact HO_2.out⟩, ⟨by repeat (first | (with_reducible first | exact HB.out | apply below_alloc | apply pw_below_drewN | apply below_drew1) | exact HB.out)⟩⟩
              case round =>
                clear H'
                try clear c1
                try clear c1b0
                try clear q1
                try clear c2
                try clear p2
                try clear c3
                try clear c4
                try clear c5
                try clear c6
                try clear p6
                try clear c8
                try clear c9
                try clear c10
                try clear q17
                try clear c20
                try clear c21
                try clear c21b0
                try clear c21b1
                try clear c23
                try clear c25
                try clear c25b0
                try clear c25b1
                try clear c27
                try clear c27b0
                try clear c27b1
                try clear c29
                try clear c29b0
                try clear c29b1
                try clear c64
                try clear p64
                try clear p2
                try clear p6
                try clear q1
                try clear q17
                try clear q173
                obtain ⟨x8_3, rfl, HA, HK3, HO_1, HO_2, HB⟩ := hrel
                cases gk with
                | zero => exact absurd HA.out (by simp [flotillalaw04_SumKnown.l1])
                | succ k3 =>
                  have H := HA.out
                  clear HA
                  simp only [flotillalaw04_SumKnown.l1] at H
                  by_cases c65 : x8_3 < 256
                  · rw [if_pos c65] at H
                    have c65b0 : decide (x8_3 < 256) = true := decide_eq_true c65
                    clear c65
                    obtain ⟨y185, hy185⟩ : ∃ y_ : List Int, y_ = (([(x8_3) % 256, (wrap64 (5 * x8_3)) % 256] : List Int)) := ⟨_, rfl⟩
                    replace H : ((flotillalaw04_SumCounted.f k3 ((((x8_3) % 4294967296) * 16777216) % 4294967296) y185).bind fun t188 => (if t188 = true then ((flotillalaw04_SumRows.f k3 (([(x8_3) % 256, 1, 2, (x8_3) % 256] : List Int)) x8_3).bind fun t192 => (if t192 = true then ((flotillalaw04_SumSeen.f k3 x2_1 x8_3 1).bind fun t193 => (if t193 = true then ((flotillalaw04_SumSeen.f k3 x1_1 x8_3 2147483649).bind fun t194 => (if t194 = true then (flotillalaw04_SumKnown.l1 k3 x1_1 x2_1 (wrap64 (x8_3 + 1))) else (none))) else (none))) else (none))) else (none))) = some r := by first | (rw [hy185]; with_reducible exact H) | (have H2_ := (Option.bind_some _ _).symm.trans H; rw [hy185]; with_reducible exact H2_) | (have H2_ := (Option.bind_some _ _).symm.trans H; with_reducible exact H2_) | with_reducible exact H | (rw [hy185]; exact H) | exact H
                    have Ny185 := Aside0.mk hy185
                    clear hy185
                    replace H := Option.bind_eq_some_iff.mp H
                    obtain ⟨t188, A660, H⟩ := H
                    replace H : (if t188 = true then ((flotillalaw04_SumRows.f k3 (([(x8_3) % 256, 1, 2, (x8_3) % 256] : List Int)) x8_3).bind fun t192 => (if t192 = true then ((flotillalaw04_SumSeen.f k3 x2_1 x8_3 1).bind fun t193 => (if t193 = true then ((flotillalaw04_SumSeen.f k3 x1_1 x8_3 2147483649).bind fun t194 => (if t194 = true then (flotillalaw04_SumKnown.l1 k3 x1_1 x2_1 (wrap64 (x8_3 + 1))) else (none))) else (none))) else (none))) else (none)) = some r := H
                    have A66 := Aside0.mk A660
                    clear A660
                    by_cases c67 : t188 = true
                    · subst c67
                      have H1 : ((flotillalaw04_SumRows.f k3 (([(x8_3) % 256, 1, 2, (x8_3) % 256] : List Int)) x8_3).bind fun t192 => (if t192 = true then ((flotillalaw04_SumSeen.f k3 x2_1 x8_3 1).bind fun t193 => (if t193 = true then ((flotillalaw04_SumSeen.f k3 x1_1 x8_3 2147483649).bind fun t194 => (if t194 = true then (flotillalaw04_SumKnown.l1 k3 x1_1 x2_1 (wrap64 (x8_3 + 1))) else (none))) else (none))) else (none))) = some r := by rw [if_pos rfl] at H; exact H
                      clear H
                      have H := H1
                      clear H1
                      obtain ⟨y189, hy189⟩ : ∃ y_ : List Int, y_ = (([(x8_3) % 256, 1, 2, (x8_3) % 256] : List Int)) := ⟨_, rfl⟩
                      replace H : ((flotillalaw04_SumRows.f k3 y189 x8_3).bind fun t192 => (if t192 = true then ((flotillalaw04_SumSeen.f k3 x2_1 x8_3 1).bind fun t193 => (if t193 = true then ((flotillalaw04_SumSeen.f k3 x1_1 x8_3 2147483649).bind fun t194 => (if t194 = true then (flotillalaw04_SumKnown.l1 k3 x1_1 x2_1 (wrap64 (x8_3 + 1))) else (none))) else (none))) else (none))) = some r := by first | (rw [hy189]; with_reducible exact H) | (have H2_ := (Option.bind_some _ _).symm.trans H; rw [hy189]; with_reducible exact H2_) | (have H2_ := (Option.bind_some _ _).symm.trans H; with_reducible exact H2_) | with_reducible exact H | (rw [hy189]; exact H) | exact H
                      have Ny189 := Aside0.mk hy189
                      clear hy189
                      replace H := Option.bind_eq_some_iff.mp H
                      obtain ⟨t192, A680, H⟩ := H
                      replace H : (if t192 = true then ((flotillalaw04_SumSeen.f k3 x2_1 x8_3 1).bind fun t193 => (if t193 = true then ((flotillalaw04_SumSeen.f k3 x1_1 x8_3 2147483649).bind fun t194 => (if t194 = true then (flotillalaw04_SumKnown.l1 k3 x1_1 x2_1 (wrap64 (x8_3 + 1))) else (none))) else (none))) else (none)) = some r := H
                      have A68 := Aside0.mk A680
                      clear A680
                      by_cases c69 : t192 = true
                      · subst c69
                        have H1 : ((flotillalaw04_SumSeen.f k3 x2_1 x8_3 1).bind fun t193 => (if t193 = true then ((flotillalaw04_SumSeen.f k3 x1_1 x8_3 2147483649).bind fun t194 => (if t194 = true then (flotillalaw04_SumKnown.l1 k3 x1_1 x2_1 (wrap64 (x8_3 + 1))) else (none))) else (none))) = some r := by rw [if_pos rfl] at H; exact H
                        clear H
                        have H := H1
                        clear H1
                        replace H := Option.bind_eq_some_iff.mp H
                        obtain ⟨t193, A700, H⟩ := H
                        replace H : (if t193 = true then ((flotillalaw04_SumSeen.f k3 x1_1 x8_3 2147483649).bind fun t194 => (if t194 = true then (flotillalaw04_SumKnown.l1 k3 x1_1 x2_1 (wrap64 (x8_3 + 1))) else (none))) else (none)) = some r := H
                        have A70 := Aside0.mk A700
                        clear A700
                        by_cases c71 : t193 = true
                        · subst c71
                          have H1 : ((flotillalaw04_SumSeen.f k3 x1_1 x8_3 2147483649).bind fun t194 => (if t194 = true then (flotillalaw04_SumKnown.l1 k3 x1_1 x2_1 (wrap64 (x8_3 + 1))) else (none))) = some r := by rw [if_pos rfl] at H; exact H
                          clear H
                          have H := H1
                          clear H1
                          replace H := Option.bind_eq_some_iff.mp H
                          obtain ⟨t194, A720, H⟩ := H
                          replace H : (if t194 = true then (flotillalaw04_SumKnown.l1 k3 x1_1 x2_1 (wrap64 (x8_3 + 1))) else (none)) = some r := H
                          have A72 := Aside0.mk A720
                          clear A720
                          by_cases c73 : t194 = true
                          · subst c73
                            have H1 : (flotillalaw04_SumKnown.l1 k3 x1_1 x2_1 (wrap64 (x8_3 + 1))) = some r := by rw [if_pos rfl] at H; exact H
                            clear H
                            have H := H1
                            clear H1
                            have H' := Aside0.mk H
                            clear H
                            go_wp2_with (first | ((with_reducible refine gate_dst (N := 79) rfl ?_); (try (refine gate_guard (by rfl) ?_; dsimp only)); refine Kd.R_lit (Kd.int .u8) _ 5 ?hg (N := 79) ?hd (xs := ([(x8_3) % 256, (wrap64 (5 * x8_3)) % 256] : List Int)) (inner := [.int .u8 ((x8_3) % 256), .int .u8 ((wrap64 (5 * x8_3)) % 256)]) (ok := fun _ => True) (okp := fun _ => True) ?hr ?hp (fun _ hk => hk) trivial (Below.refl _ _) (Nat.le_refl _) (by simp) ?_; (case hd => rfl); (case hg => rfl); (case hr => first | (go_simp; done) | (go_simp; rfl)); (case hp => exact (Reps.one (show Kd.M (Kd.int .u8) _ _ _ ((x8_3) % 256) [.int .u8 ((x8_3) % 256)] from rfl) (Reps.one (show Kd.M (Kd.int .u8) _ _ _ ((wrap64 (5 * x8_3)) % 256) [.int .u8 ((wrap64 (5 * x8_3)) % 256)] from rfl) (Reps.none _ _)))); intro v186 w74 ho75 hb hg_ hnew_; clear hg_ hnew_; (first | rw [← Ny185.out] at ho75 | (simp only [Int.reduceToNat] at ho75; rw [← Ny185.out] at ho75)); have n0_ := Aside0.mk (Kd.R_elder' (by (with_reducible repeat (first | apply Kd.R_alloc | apply Kd.R_drewN | apply Kd.R_drew)); exact HO_1.out) (Kd.R_base ho75) hb); have n1_ := Aside0.mk (Kd.R_elder' (by (with_reducible repeat (first | apply Kd.R_alloc | apply Kd.R_drewN | apply Kd.R_drew)); exact HO_2.out) (Kd.R_base ho75) hb); have n2_ := Aside0.mk (Kd.R_lower (Kd.R_new' (Kd.R_new' ho75 (Kd.R_lt (by (with_reducible repeat (first | apply Kd.R_alloc | apply Kd.R_drewN | apply Kd.R_drew)); exact HO_1.out))) (Kd.R_lt (by (with_reducible repeat (first | apply Kd.R_alloc | apply Kd.R_drewN | apply Kd.R_drew)); exact HO_2.out))) (below_size (by repeat (first | (with_reducible first | exact HB.out | apply below_alloc | apply pw_below_drewN | apply below_drew1) | exact HB.out)))); have n3_ := Aside0.mk (below_step (by repeat (first | (with_reducible first | exact HB.out | apply below_alloc | apply pw_below_drewN | apply below_drew1) | exact HB.out)) hb); clear HO_1; clear HO_2; clear HB; have HO_1 := n0_; have HO_2 := n1_; have HO187 := n2_; have HB := n3_; clear n0_ n1_ n2_ n3_; clear hb ho75; obtain ⟨Ao76, co76, eo76⟩ := Kd.R_slice HO187.out; subst eo76) | ((with_reducible refine gate_callee (f := 11) rfl ?_); refine goesL_ (some 80) rfl rfl Tryd.func11 (by kernel_rfl) rfl #[.int .u32 ((((x8_3) % 4294967296) * 16777216) % 4294967296), .slice Ao76 y185.length co76] rfl (by (try simp only [List.map_toArray, List.map_cons, List.map_nil]); first | done | rfl | (simp only [List.length_drop, List.length_take]; rfl)) ?_; (with_reducible refine (flotillalaw04_SumCounted.calls k3 ((((x8_3) % 4294967296) * 16777216) % 4294967296) _ _ y185 true _ ?side1 ?side2 A66.out).mono ?_); (case side1 => repeat (first | exact (Kd.R_reads' HO187.out).2.2 | (with_reducible refine Kd.C_alloc ?_ _) | (with_reducible refine Kd.C_drewN ?_ _) | (with_reducible refine Kd.C_drew ?_))); (case side2 => exact (Kd.R_reads' HO187.out).2.1); rintro e w77 ⟨rfl, hb⟩; refine ⟨_, rfl, ?_⟩; have n0_ := Aside0.mk (Kd.R_below (by (with_reducible repeat (first | apply Kd.R_alloc | apply Kd.R_drewN | apply Kd.R_drew)); exact HO_1.out) hb); have n1_ := Aside0.mk (Kd.R_below (by (with_reducible repeat (first | apply Kd.R_alloc | apply Kd.R_drewN | apply Kd.R_drew)); exact HO_2.out) hb); have n2_ := Aside0.mk (Kd.R_below (by (with_reducible repeat (first | apply Kd.R_alloc | apply Kd.R_drewN | apply Kd.R_drew)); exact HO187.out) hb); have n3_ := Aside0.mk (below_step (by repeat (first | (with_reducible first | exact HB.out | apply below_alloc | apply pw_below_drewN | apply below_drew1) | exact HB.out)) hb); clear HO_1; clear HO_2; clear HO187; clear HB; have HO_1 := n0_; have HO_2 := n1_; have HO187 := n2_; have HB := n3_; clear n0_ n1_ n2_ n3_; (try clear hb); (try clear hb2); (try clear hk); (try clear hi)) | ((with_reducible refine gate_dst (N := 87) rfl ?_); (try (refine gate_guard (by rfl) ?_; dsimp only)); refine Kd.R_lit (Kd.int .u8) _ 5 ?hg (N := 87) ?hd (xs := ([(x8_3) % 256, 1, 2, (x8_3) % 256] : List Int)) (inner := [.int .u8 ((x8_3) % 256), .int .u8 1, .int .u8 2, .int .u8 ((x8_3) % 256)]) (ok := fun _ => True) (okp := fun _ => True) ?hr ?hp (fun _ hk => hk) trivial (Below.refl _ _) (Nat.le_refl _) (by simp) ?_; (case hd => rfl); (case hg => rfl); (case hr => first | (go_simp; done) | (go_simp; rfl)); (case hp => exact (Reps.one (show Kd.M (Kd.int .u8) _ _ _ ((x8_3) % 256) [.int .u8 ((x8_3) % 256)] from rfl) (Reps.one (show Kd.M (Kd.int .u8) _ _ _ 1 [.int .u8 1] from rfl) (Reps.one (show Kd.M (Kd.int .u8) _ _ _ 2 [.int .u8 2] from rfl) (Reps.one (show Kd.M (Kd.int .u8) _ _ _ ((x8_3) % 256) [.int .u8 ((x8_3) % 256)] from rfl) (Reps.none _ _)))))); intro v190 w78 ho79 hb hg_ hnew_; clear hg_ hnew_; (first | rw [← Ny189.out] at ho79 | (simp only [Int.reduceToNat] at ho79; rw [← Ny189.out] at ho79)); have n0_ := Aside0.mk (Kd.R_elder' (by (with_reducible repeat (first | apply Kd.R_alloc | apply Kd.R_drewN | apply Kd.R_drew)); exact HO_1.out) (Kd.R_base ho79) hb); have n1_ := Aside0.mk (Kd.R_elder' (by (with_reducible repeat (first | apply Kd.R_alloc | apply Kd.R_drewN | apply Kd.R_drew)); exact HO_2.out) (Kd.R_base ho79) hb); have n2_ := Aside0.mk (Kd.R_elder' (by (with_reducible repeat (first | apply Kd.R_alloc | apply Kd.R_drewN | apply Kd.R_drew)); exact HO187.out) (Kd.R_base ho79) hb); have n3_ := Aside0.mk (Kd.R_lower (Kd.R_new' (Kd.R_new' (Kd.R_new' ho79 (Kd.R_lt (by (with_reducible repeat (first | apply Kd.R_alloc | apply Kd.R_drewN | apply Kd.R_drew)); exact HO_1.out))) (Kd.R_lt (by (with_reducible repeat (first | apply Kd.R_alloc | apply Kd.R_drewN | apply Kd.R_drew)); exact HO_2.out))) (Kd.R_lt (by (with_reducible repeat (first | apply Kd.R_alloc | apply Kd.R_drewN | apply Kd.R_drew)); exact HO187.out))) (below_size (by repeat (first | (with_reducible first | exact HB.out | apply below_alloc | apply pw_below_drewN | apply below_drew1) | exact HB.out)))); have n4_ := Aside0.mk (below_step (by repeat (first | (with_reducible first | exact HB.out | apply below_alloc | apply pw_below_drewN | apply below_drew1) | exact HB.out)) hb); clear HO_1; clear HO_2; clear HO187; clear HB; have HO_1 := n0_; have HO_2 := n1_; have HO187 := n2_; have HO191 := n3_; have HB := n4_; clear n0_ n1_ n2_ n3_ n4_; clear hb ho79; obtain ⟨Ao80, co80, eo80⟩ := Kd.R_slice HO191.out; subst eo80) | (go_at_call 12; (with_reducible refine (flotillalaw04_SumRows.calls k3 _ _ y189 x8_3 true _ ?side1 ?side2 A68.out).mono ?_); (case side1 => repeat (first | exact (Kd.R_reads' HO191.out).2.2 | (with_reducible refine Kd.C_alloc ?_ _) | (with_reducible refine Kd.C_drewN ?_ _) | (with_reducible refine Kd.C_drew ?_))); (case side2 => exact (Kd.R_reads' HO191.out).2.1); rintro e w81 ⟨rfl, hb⟩; have n0_ := Aside0.mk (Kd.R_below (by (with_reducible repeat (first | apply Kd.R_alloc | apply Kd.R_drewN | apply Kd.R_drew)); exact HO_1.out) hb); have n1_ := Aside0.mk (Kd.R_below (by (with_reducible repeat (first | apply Kd.R_alloc | apply Kd.R_drewN | apply Kd.R_drew)); exact HO_2.out) hb); have n2_ := Aside0.mk (Kd.R_below (by (with_reducible repeat (first | apply Kd.R_alloc | apply Kd.R_drewN | apply Kd.R_drew)); exact HO187.out) hb); have n3_ := Aside0.mk (Kd.R_below (by (with_reducible repeat (first | apply Kd.R_alloc | apply Kd.R_drewN | apply Kd.R_drew)); exact HO191.out) hb); have n4_ := Aside0.mk (below_step (by repeat (first | (with_reducible first | exact HB.out | apply below_alloc | apply pw_below_drewN | apply below_drew1) | exact HB.out)) hb); clear HO_1; clear HO_2; clear HO187; clear HO191; clear HB; have HO_1 := n0_; have HO_2 := n1_; have HO187 := n2_; have HO191 := n3_; have HB := n4_; clear n0_ n1_ n2_ n3_ n4_; (try clear hb); (try clear hb2); (try clear hk); (try clear hi); obtain ⟨Ao82, co82, eo82⟩ := Kd.R_slice HO_2.out; subst eo82) | (go_at_call 13; (with_reducible refine (flotillalaw04_SumSeen.calls k3 _ _ x2_1 x8_3 1 true _ ?side1 ?side2 A70.out).mono ?_); (case side1 => repeat (first | exact (Kd.R_reads' HO_2.out).2.2 | (with_reducible refine Kd.C_alloc ?_ _) | (with_reducible refine Kd.C_drewN ?_ _) | (with_reducible refine Kd.C_drew ?_))); (case side2 => exact (Kd.R_reads' HO_2.out).2.1); rintro e w83 ⟨rfl, hb⟩; have n0_ := Aside0.mk (Kd.R_below (by (with_reducible repeat (first | apply Kd.R_alloc | apply Kd.R_drewN | apply Kd.R_drew)); exact HO_1.out) hb); have n1_ := Aside0.mk (Kd.R_below (by (with_reducible repeat (first | apply Kd.R_alloc | apply Kd.R_drewN | apply Kd.R_drew)); exact HO_2.out) hb); have n2_ := Aside0.mk (Kd.R_below (by (with_reducible repeat (first | apply Kd.R_alloc | apply Kd.R_drewN | apply Kd.R_drew)); exact HO187.out) hb); have n3_ := Aside0.mk (Kd.R_below (by (with_reducible repeat (first | apply Kd.R_alloc | apply Kd.R_drewN | apply Kd.R_drew)); exact HO191.out) hb); have n4_ := Aside0.mk (below_step (by repeat (first | (with_reducible first | exact HB.out | apply below_alloc | apply pw_below_drewN | apply below_drew1) | exact HB.out)) hb); clear HO_1; clear HO_2; clear HO187; clear HO191; clear HB; have HO_1 := n0_; have HO_2 := n1_; have HO187 := n2_; have HO191 := n3_; have HB := n4_; clear n0_ n1_ n2_ n3_ n4_; (try clear hb); (try clear hb2); (try clear hk); (try clear hi); obtain ⟨Ao84, co84, eo84⟩ := Kd.R_slice HO_1.out; subst eo84) | (go_at_call 13; (with_reducible refine (flotillalaw04_SumSeen.calls k3 _ _ x1_1 x8_3 2147483649 true _ ?side1 ?side2 A72.out).mono ?_); (case side1 => repeat (first | exact (Kd.R_reads' HO_1.out).2.2 | (with_reducible refine Kd.C_alloc ?_ _) | (with_reducible refine Kd.C_drewN ?_ _) | (with_reducible refine Kd.C_drew ?_))); (case side2 => exact (Kd.R_reads' HO_1.out).2.1); rintro e w85 ⟨rfl, hb⟩; have n0_ := Aside0.mk (Kd.R_below (by (with_reducible repeat (first | apply Kd.R_alloc | apply Kd.R_drewN | apply Kd.R_drew)); exact HO_1.out) hb); have n1_ := Aside0.mk (Kd.R_below (by (with_reducible repeat (first | apply Kd.R_alloc | apply Kd.R_drewN | apply Kd.R_drew)); exact HO_2.out) hb); have n2_ := Aside0.mk (Kd.R_below (by (with_reducible repeat (first | apply Kd.R_alloc | apply Kd.R_drewN | apply Kd.R_drew)); exact HO187.out) hb); have n3_ := Aside0.mk (Kd.R_below (by (with_reducible repeat (first | apply Kd.R_alloc | apply Kd.R_drewN | apply Kd.R_drew)); exact HO191.out) hb); have n4_ := Aside0.mk (below_step (by repeat (first | (with_reducible first | exact HB.out | apply below_alloc | apply pw_below_drewN | apply below_drew1) | exact HB.out)) hb); clear HO_1; clear HO_2; clear HO187; clear HO191; clear HB; have HO_1 := n0_; have HO_2 := n1_; have HO187 := n2_; have HO191 := n3_; have HB := n4_; clear n0_ n1_ n2_ n3_ n4_; (try clear hb); (try clear hb2); (try clear hk); (try clear hi)))
                            go_roundg k3
                            case measure => have := HK1.out; have := HJ11.out; have := HK3.out; omega
                            case rel => exact ⟨(wrap64 (x8_3 + 1)), (by first | rfl | (simp; done) | (simp [*]; done)), H', ⟨by have := HK1.out; have := HJ11.out; have := HK3.out; omega⟩, ⟨by (with_reducible repeat (first | apply Kd.R_alloc | apply Kd.R_drewN | apply Kd.R_drew)); exact Kd.R_mono HO_1.out (fun _ hk => hk.1.1)⟩, ⟨by (with_reducible repeat (first | apply Kd.R_alloc | apply Kd.R_drewN | apply Kd.R_drew)); exact Kd.R_mono HO_2.out (fun _ hk => hk.1.1)⟩, ⟨by repeat (first | (with_reducible first | exact HB.out | apply below_alloc | apply pw_below_drewN | apply below_drew1) | exact HB.out)⟩⟩
                          · replace c73 := Bool.eq_false_iff.mpr c73
                            subst c73
                            have H1 : (none) = some r := by rw [if_neg (show ¬ (false = true) by decide)] at H; exact H
                            clear H
                            have H := H1
                            clear H1
                            exact absurd H (by simp)
                        · replace c71 := Bool.eq_false_iff.mpr c71
                          subst c71
                          have H1 : (none) = some r := by rw [if_neg (show ¬ (false = true) by decide)] at H; exact H
                          clear H
                          have H := H1
                          clear H1
                          exact absurd H (by simp)
                      · replace c69 := Bool.eq_false_iff.mpr c69
                        subst c69
                        have H1 : (none) = some r := by rw [if_neg (show ¬ (false = true) by decide)] at H; exact H
                        clear H
                        have H := H1
                        clear H1
                        exact absurd H (by simp)
                    · replace c67 := Bool.eq_false_iff.mpr c67
                      subst c67
                      have H1 : (none) = some r := by rw [if_neg (show ¬ (false = true) by decide)] at H; exact H
                      clear H
                      have H := H1
                      clear H1
                      exact absurd H (by simp)
                  · rw [if_neg c65] at H
                    have c65b0 : decide (x8_3 < 256) = false := decide_eq_false c65
                    clear c65
                    have H' := Aside0.mk H
                    clear H
                    go_wp2
                    go_loopg [9] k3 (fun kq v9 w' => ∃ (x9_4 : Int), v9 = .int .i64 x9_4 ∧ Aside0 (flotillalaw04_SumKnown.l2 kq x9_4 = some r) ∧ Aside0 (kq ≤ k3) ∧ Aside0 (Below w.heap.size w w'))
                    case atStart => exact ⟨(0), (by first | rfl | (simp; done) | (simp [*]; done)), H', ⟨Nat.le_refl _⟩, ⟨by repeat (first | (with_reducible first | exact HB.out | apply below_alloc | apply pw_below_drewN | apply below_drew1) | exact HB.out)⟩⟩
                    case round =>
                      clear H'
                      try clear c1
                      try clear c1b0
                      try clear q1
                      try clear c2
                      try clear p2
                      try clear c3
                      try clear c4
                      try clear c5
                      try clear c6
                      try clear p6
                      try clear c7
                      try clear c8
                      try clear c9
                      try clear c10
                      try clear c11
                      try clear q17
                      try clear c20
                      try clear c21
                      try clear c21b0
                      try clear c21b1
                      try clear c23
                      try clear c25
                      try clear c25b0
                      try clear c25b1
                      try clear c27
                      try clear c27b0
                      try clear c27b1
                      try clear c29
                      try clear c29b0
                      try clear c29b1
                      try clear c64
                      try clear p64
                      try clear c65
                      try clear c65b0
                      try clear c67
                      try clear c69
                      try clear c71
                      try clear c73
                      try clear p2
                      try clear p6
                      try clear p64
                      try clear q1
                      try clear q17
                      try clear q173
                      obtain ⟨x9_4, rfl, HA, HK4, HB⟩ := hrel
                      cases gk with
                      | zero => exact absurd HA.out (by simp [flotillalaw04_SumKnown.l2])
                      | succ k4 =>
                        have H := HA.out
                        clear HA
                        simp only [flotillalaw04_SumKnown.l2] at H
                        by_cases c86 : x9_4 < 63
                        · rw [if_pos c86] at H
                          have c86b0 : decide (x9_4 < 63) = true := decide_eq_true c86
                          clear c86
                          by_cases c87 : 0 ≤ x9_4
                          · rw [if_pos c87] at H
                            have c87b0 := eq_true c87
                            have c87b1 : decide (0 ≤ x9_4) = true := decide_eq_true c87
                            clear c87
                            obtain ⟨ji88, hji88⟩ : ∃ j_ : Int, (shl .i64 1 x9_4) = j_ := ⟨_, rfl⟩
                            replace H : ((flotillalaw04_SumJoined.f k4 ((x9_4) % 4294967296) 4294967295 (ji88)).bind fun t197 => (if t197 = true then ((flotillalaw04_SumJoined.f k4 2147483648 ((x9_4) % 4294967296) (wrap64 ((ji88) - 1))).bind fun t198 => (if t198 = true then (flotillalaw04_SumKnown.l2 k4 (wrap64 (x9_4 + 1))) else (none))) else (none))) = some r := by first | (rw [hji88] at H; exact H) | (simp only [hji88] at H ⊢; exact H)
                            have hji88_ : (IntKind.i64.wrap (1 * 2 ^ min x9_4.toNat 64)) = ji88 := hji88
                            have hji88z : x9_4 ≤ 64 → (IntKind.i64.wrap (1 * 2 ^ x9_4.toNat)) = ji88 := shl_small hji88
                            have hji88u : (IntKind.i64.wrap (2 ^ min x9_4.toNat 64)) = ji88 := by have h_ := hji88_; rw [Int.one_mul] at h_; exact h_
                            have hji88v : x9_4 ≤ 64 → (IntKind.i64.wrap (2 ^ x9_4.toNat)) = ji88 := fun hle_ => by have h_ := hji88z hle_; rw [Int.one_mul] at h_; exact h_
                            have hji88y : (wrap64 (1 * 2 ^ min x9_4.toNat 64)) = ji88 := (i64_w _).symm.trans hji88_
                            have hji88x : x9_4 ≤ 64 → (wrap64 (1 * 2 ^ x9_4.toNat)) = ji88 := fun h_ => (i64_w _).symm.trans (hji88z h_)
                            replace H := Option.bind_eq_some_iff.mp H
                            obtain ⟨t197, A890, H⟩ := H
                            replace H : (if t197 = true then ((flotillalaw04_SumJoined.f k4 2147483648 ((x9_4) % 4294967296) (wrap64 ((ji88) - 1))).bind fun t198 => (if t198 = true then (flotillalaw04_SumKnown.l2 k4 (wrap64 (x9_4 + 1))) else (none))) else (none)) = some r := H
                            have A89 := Aside0.mk A890
                            clear A890
                            by_cases c90 : t197 = true
                            · subst c90
                              have H1 : ((flotillalaw04_SumJoined.f k4 2147483648 ((x9_4) % 4294967296) (wrap64 ((ji88) - 1))).bind fun t198 => (if t198 = true then (flotillalaw04_SumKnown.l2 k4 (wrap64 (x9_4 + 1))) else (none))) = some r := by rw [if_pos rfl] at H; exact H
                              clear H
                              have H := H1
                              clear H1
                              have c91b0 := eq_true (of_decide_eq_true (by first | (with_reducible assumption) | assumption) : 0 ≤ x9_4)
                              replace H := Option.bind_eq_some_iff.mp H
                              obtain ⟨t198, A920, H⟩ := H
                              replace H : (if t198 = true then (flotillalaw04_SumKnown.l2 k4 (wrap64 (x9_4 + 1))) else (none)) = some r := H
                              have A92 := Aside0.mk A920
                              clear A920
                              by_cases c93 : t198 = true
                              · subst c93
                                have H1 : (flotillalaw04_SumKnown.l2 k4 (wrap64 (x9_4 + 1))) = some r := by rw [if_pos rfl] at H; exact H
                                clear H
                                have H := H1
                                clear H1
                                have H' := Aside0.mk H
                                clear H
                                go_wp2_with (first | ((with_reducible refine gate_callee (f := 3) rfl ?_); refine goesL_ (some 112) rfl rfl Tryd.func3 (by kernel_rfl) rfl #[.int .u32 ((x9_4) % 4294967296), .int .u32 4294967295, .int .i64 ji88] rfl (by (try simp only [List.map_toArray, List.map_cons, List.map_nil]); first | done | (simp only [hji88]; rfl) | rfl | (simp only [List.length_drop, List.length_take]; rfl)) ?_; (with_reducible refine (flotillalaw04_SumJoined.calls k4 ((x9_4) % 4294967296) 4294967295 ji88 true _ (Go.Proofs.YtckihppdjoianaaDoor.As.Glob.below HGl.out (by repeat (first | (with_reducible first | exact HB.out | apply below_alloc | apply pw_below_drewN | apply below_drew1) | exact HB.out))) A89.out).mono ?_); rintro e w94 ⟨rfl, hb⟩; refine ⟨_, rfl, ?_⟩; have n0_ := Aside0.mk (below_step (by repeat (first | (with_reducible first | exact HB.out | apply below_alloc | apply pw_below_drewN | apply below_drew1) | exact HB.out)) hb); clear HB; have HB := n0_; clear n0_; (try clear hb); (try clear hb2); (try clear hk); (try clear hi)) | (go_at_call 3; (with_reducible refine (flotillalaw04_SumJoined.calls k4 2147483648 ((x9_4) % 4294967296) (wrap64 ((ji88) - 1)) true _ (Go.Proofs.YtckihppdjoianaaDoor.As.Glob.below HGl.out (by repeat (first | (with_reducible first | exact HB.out | apply below_alloc | apply pw_below_drewN | apply below_drew1) | exact HB.out))) A92.out).mono ?_); rintro e w95 ⟨rfl, hb⟩; have n0_ := Aside0.mk (below_step (by repeat (first | (with_reducible first | exact HB.out | apply below_alloc | apply pw_below_drewN | apply below_drew1) | exact HB.out)) hb); clear HB; have HB := n0_; clear n0_; (try clear hb); (try clear hb2); (try clear hk); (try clear hi)))
                                go_roundg k4
                                case measure => have := HK1.out; have := HJ11.out; have := HK3.out; have := HK4.out; omega
                                case rel => exact ⟨(wrap64 (x9_4 + 1)), (by first | rfl | (simp; done) | (simp [*]; done)), H', ⟨by have := HK1.out; have := HJ11.out; have := HK3.out; have := HK4.out; omega⟩, ⟨by repeat (first | (with_reducible first | exact HB.out | apply below_alloc | apply pw_below_drewN | apply below_drew1) | exact HB.out)⟩⟩
                              · replace c93 := Bool.eq_false_iff.mpr c93
                                subst c93
                                have H1 : (none) = some r := by rw [if_neg (show ¬ (false = true) by decide)] at H; exact H
                                clear H
                                have H := H1
                                clear H1
                                exact absurd H (by simp)
                            · replace c90 := Bool.eq_false_iff.mpr c90
                              subst c90
                              have H1 : (none) = some r := by rw [if_neg (show ¬ (false = true) by decide)] at H; exact H
                              clear H
                              have H := H1
                              clear H1
                              exact absurd H (by simp)
                          · rw [if_neg c87] at H
                            exact absurd H (by simp)
                        · rw [if_neg c86] at H
                          have c86b0 : decide (x9_4 < 63) = false := decide_eq_false c86
                          clear c86
                          replace H := Option.bind_eq_some_iff.mp H
                          obtain ⟨t195, A960, H⟩ := H
                          replace H : (if t195 = true then ((flotillalaw04_SumJoined.f k4 5 7 9223372036854775807).bind fun t196 => (some t196)) else (none)) = some r := H
                          have A96 := Aside0.mk A960
                          clear A960
                          by_cases c97 : t195 = true
                          · subst c97
                            have H1 : ((flotillalaw04_SumJoined.f k4 5 7 9223372036854775807).bind fun t196 => (some t196)) = some r := by rw [if_pos rfl] at H; exact H
                            clear H
                            have H := H1
                            clear H1
                            replace H := Option.bind_eq_some_iff.mp H
                            obtain ⟨t196, A980, H⟩ := H
                            replace H : (some t196) = some r := H
                            have A98 := Aside0.mk A980
                            clear A980
                            obtain rfl := Option.some.inj H
                            go_wp2_with (first | ((with_reducible refine gate_callee (f := 3) rfl ?_); refine goesL_ (some 123) rfl rfl Tryd.func3 (by kernel_rfl) rfl #[.int .u32 5, .int .u32 7, .int .i64 (-9223372036854775808)] rfl (by (try simp only [List.map_toArray, List.map_cons, List.map_nil]); first | done | rfl | (simp only [List.length_drop, List.length_take]; rfl)) ?_; (with_reducible refine (flotillalaw04_SumJoined.calls k4 5 7 (-9223372036854775808) true _ (Go.Proofs.YtckihppdjoianaaDoor.As.Glob.below HGl.out (by repeat (first | (with_reducible first | exact HB.out | apply below_alloc | apply pw_below_drewN | apply below_drew1) | exact HB.out))) A96.out).mono ?_); rintro e w99 ⟨rfl, hb⟩; refine ⟨_, rfl, ?_⟩; have n0_ := Aside0.mk (below_step (by repeat (first | (with_reducible first | exact HB.out | apply below_alloc | apply pw_below_drewN | apply below_drew1) | exact HB.out)) hb); clear HB; have HB := n0_; clear n0_; (try clear hb); (try clear hb2); (try clear hk); (try clear hi)) | (go_at_call 3; (with_reducible refine (flotillalaw04_SumJoined.calls k4 5 7 9223372036854775807 t196 _ (Go.Proofs.YtckihppdjoianaaDoor.As.Glob.below HGl.out (by repeat (first | (with_reducible first | exact HB.out | apply below_alloc | apply pw_below_drewN | apply below_drew1) | exact HB.out))) A98.out).mono ?_); rintro e w100 ⟨rfl, hb⟩; have n0_ := Aside0.mk (below_step (by repeat (first | (with_reducible first | exact HB.out | apply below_alloc | apply pw_below_drewN | apply below_drew1) | exact HB.out)) hb); clear HB; have HB := n0_; clear n0_; (try clear hb); (try clear hb2); (try clear hk); (try clear hi)))
                            go_ret
                            exact ⟨by first | rfl | (simp [errW_none, errW_some] <;> rfl) | (simp [*, errW_none, errW_some] <;> rfl), by repeat (first | (with_reducible first | exact HB.out | apply below_alloc | apply pw_below_drewN | apply below_drew1) | exact HB.out)⟩
                          · replace c97 := Bool.eq_false_iff.mpr c97
                            subst c97
                            have H1 : (none) = some r := by rw [if_neg (show ¬ (false = true) by decide)] at H; exact H
                            clear H
                            have H := H1
                            clear H1
                            exact absurd H (by simp)

end Go.Proofs.YtckihppdjoianaaDoor.Print
