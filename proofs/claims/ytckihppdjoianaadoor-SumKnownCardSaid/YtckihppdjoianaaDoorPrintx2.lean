/- The functions below as plain Lean functions, each with the proof that the calls come to it; written by a program over the kit's print. -/
import Derived.Test.YtckihppdjoianaaDoorPrintx0
import Derived.Test.YtckihppdjoianaaDoorPrintx1
namespace Go.Proofs.YtckihppdjoianaaDoor.Print
open Go.RowKit Go.Proofs.YtckihppdjoianaaDoorW.PrintWords Go.Proofs.YtckihppdjoianaaDoorW.PrintLast Go.Proofs.YtckihppdjoianaaDoorW.PrintMore
attribute [local go_sem] max2_int min2_int max_two min_two max_three min_three max_four min_four   -- for this text's walks alone
set_option linter.unusedVariables false
set_option linter.unusedSimpArgs false

/-! ### flotillaref04_zeros: function 16 -/
mutual
def flotillaref04_zeros.l0 : Nat → Int → Int → List Int → Int → Option (Int)
  | 0, _, _, _, _ => none
  | k + 1, x0, x1, x5, x6 => if x6 < 32 then (if 0 ≤ x6 then (flotillaref04_zeros.l1 k x0 x1 x5 x6 (shl .u32 1 x6) 0) else (none)) else (flotillaref04_zeros.l2 k x0 x1 x5 0)
def flotillaref04_zeros.l1 : Nat → Int → Int → List Int → Int → Int → Int → Option (Int)
  | 0, _, _, _, _, _, _ => none
  | k + 1, x0, x1, x5, x6, x7, x8 => if x8 < 8 then ((flotillaref04_bit.f x7).bind fun t102 => (flotillaref04_zeros.l1 k x0 x1 x5 x6 t102 (wrap64 (x8 + 1)))) else (if x5.length < 35184372088832 then (flotillaref04_zeros.l0 k x0 x1 (x5 ++ [x7]) (wrap64 (x6 + 1))) else (none))
def flotillaref04_zeros.l2 : Nat → Int → Int → List Int → Int → Option (Int)
  | 0, _, _, _, _ => none
  | k + 1, x0, x1, x5, x9 => if x9 < 63 then (flotillaref04_zeros.j3 k x0 x1 x5 x9 (decide (x1 > 0))) else (flotillaref04_zeros.j3 k x0 x1 x5 x9 false)
def flotillaref04_zeros.j3 : Nat → Int → Int → List Int → Int → Bool → Option (Int)
  | 0, _, _, _, _, _ => none
  | k + 1, x0, x1, x5, x9, x33 => if x33 = true then (if (Go.bits .and .i64 x1 1) = 1 then ((flotillaref04_over.f k x5 x0).bind fun t106 => (flotillaref04_zeros.j4 k t106 x1 x5 x9)) else (flotillaref04_zeros.j4 k x0 x1 x5 x9)) else (some x0)
def flotillaref04_zeros.j4 : Nat → Int → Int → List Int → Int → Option (Int)
  | 0, _, _, _, _ => none
  | k + 1, x0, x1, x5, x9 => flotillaref04_zeros.l3 k x0 x1 x5 x9 ([] : List Int) 0
def flotillaref04_zeros.l3 : Nat → Int → Int → List Int → Int → List Int → Int → Option (Int)
  | 0, _, _, _, _, _, _ => none
  | k + 1, x0, x1, x5, x9, x10, x11 => if x11 < 32 then (if 0 ≤ x11 then (if x11 < (x5.length : Int) then ((flotillaref04_over.f k x5 (rd x5 x11)).bind fun t108 => (if x10.length < 35184372088832 then (flotillaref04_zeros.l3 k x0 x1 x5 x9 (x10 ++ [t108]) (wrap64 (x11 + 1))) else (none))) else (none)) else (none)) else (flotillaref04_zeros.l2 k x0 (x1 / 2) x10 (wrap64 (x9 + 1)))
end
def flotillaref04_zeros.f (k : Nat) (a0 : Int) (a1 : Int) : Option (Int) := flotillaref04_zeros.l0 k a0 a1 ([] : List Int) 0
theorem flotillaref04_zeros.mono_l : ∀ k, (∀ y0 y1 y2 y3, LeO (flotillaref04_zeros.l0 k y0 y1 y2 y3) (flotillaref04_zeros.l0 (k + 1) y0 y1 y2 y3)) ∧ (∀ y0 y1 y2 y3 y4 y5, LeO (flotillaref04_zeros.l1 k y0 y1 y2 y3 y4 y5) (flotillaref04_zeros.l1 (k + 1) y0 y1 y2 y3 y4 y5)) ∧ (∀ y0 y1 y2 y3, LeO (flotillaref04_zeros.l2 k y0 y1 y2 y3) (flotillaref04_zeros.l2 (k + 1) y0 y1 y2 y3)) ∧ (∀ y0 y1 y2 y3 y4, LeO (flotillaref04_zeros.j3 k y0 y1 y2 y3 y4) (flotillaref04_zeros.j3 (k + 1) y0 y1 y2 y3 y4)) ∧ (∀ y0 y1 y2 y3, LeO (flotillaref04_zeros.j4 k y0 y1 y2 y3) (flotillaref04_zeros.j4 (k + 1) y0 y1 y2 y3)) ∧ (∀ y0 y1 y2 y3 y4 y5, LeO (flotillaref04_zeros.l3 k y0 y1 y2 y3 y4 y5) (flotillaref04_zeros.l3 (k + 1) y0 y1 y2 y3 y4 y5))
  | 0 => ⟨fun _ _ _ _ r h => by simp [flotillaref04_zeros.l0] at h, fun _ _ _ _ _ _ r h => by simp [flotillaref04_zeros.l1] at h, fun _ _ _ _ r h => by simp [flotillaref04_zeros.l2] at h, fun _ _ _ _ _ r h => by simp [flotillaref04_zeros.j3] at h, fun _ _ _ _ r h => by simp [flotillaref04_zeros.j4] at h, fun _ _ _ _ _ _ r h => by simp [flotillaref04_zeros.l3] at h⟩
  | k + 1 => by
    obtain ⟨ih0, ih1, ih2, ih3, ih4, ih5⟩ := flotillaref04_zeros.mono_l k
    refine ⟨?_, ?_, ?_, ?_, ?_, ?_⟩
    · intro y0 y1 y2 y3
      unfold flotillaref04_zeros.l0
      repeat' first
      | (with_reducible exact ih0 _ _ _ _)
      | (with_reducible exact ih1 _ _ _ _ _ _)
      | (with_reducible exact ih2 _ _ _ _)
      | (with_reducible exact ih3 _ _ _ _ _)
      | (with_reducible exact ih4 _ _ _ _)
      | (with_reducible exact ih5 _ _ _ _ _ _)
      | (with_reducible exact flotillaref04_over.mono _ _ _)
      | (with_reducible exact LeO.refl _)
      | (with_reducible exact LeO.none _)
      | (with_reducible refine LeO.ite ?_ ?_)
      | (with_reducible refine LeO.bind ?_ (fun _ => ?_))
      | exact ih0 _ _ _ _
      | exact ih1 _ _ _ _ _ _
      | exact ih2 _ _ _ _
      | exact ih3 _ _ _ _ _
      | exact ih4 _ _ _ _
      | exact ih5 _ _ _ _ _ _
      | exact flotillaref04_over.mono _ _ _
      | exact LeO.none _
      | refine LeO.ite ?_ ?_
      | refine LeO.bind ?_ (fun _ => ?_)
    · intro y0 y1 y2 y3 y4 y5
      unfold flotillaref04_zeros.l1
      repeat' first
      | (with_reducible exact ih0 _ _ _ _)
      | (with_reducible exact ih1 _ _ _ _ _ _)
      | (with_reducible exact ih2 _ _ _ _)
      | (with_reducible exact ih3 _ _ _ _ _)
      | (with_reducible exact ih4 _ _ _ _)
      | (with_reducible exact ih5 _ _ _ _ _ _)
      | (with_reducible exact flotillaref04_over.mono _ _ _)
      | (with_reducible exact LeO.refl _)
      | (with_reducible exact LeO.none _)
      | (with_reducible refine LeO.ite ?_ ?_)
      | (with_reducible refine LeO.bind ?_ (fun _ => ?_))
      | exact ih0 _ _ _ _
      | exact ih1 _ _ _ _ _ _
      | exact ih2 _ _ _ _
      | exact ih3 _ _ _ _ _
      | exact ih4 _ _ _ _
      | exact ih5 _ _ _ _ _ _
      | exact flotillaref04_over.mono _ _ _
      | exact LeO.none _
      | refine LeO.ite ?_ ?_
      | refine LeO.bind ?_ (fun _ => ?_)
    · intro y0 y1 y2 y3
      unfold flotillaref04_zeros.l2
      repeat' first
      | (with_reducible exact ih0 _ _ _ _)
      | (with_reducible exact ih1 _ _ _ _ _ _)
      | (with_reducible exact ih2 _ _ _ _)
      | (with_reducible exact ih3 _ _ _ _ _)
      | (with_reducible exact ih4 _ _ _ _)
      | (with_reducible exact ih5 _ _ _ _ _ _)
      | (with_reducible exact flotillaref04_over.mono _ _ _)
      | (with_reducible exact LeO.refl _)
      | (with_reducible exact LeO.none _)
      | (with_reducible refine LeO.ite ?_ ?_)
      | (with_reducible refine LeO.bind ?_ (fun _ => ?_))
      | exact ih0 _ _ _ _
      | exact ih1 _ _ _ _ _ _
      | exact ih2 _ _ _ _
      | exact ih3 _ _ _ _ _
      | exact ih4 _ _ _ _
      | exact ih5 _ _ _ _ _ _
      | exact flotillaref04_over.mono _ _ _
      | exact LeO.none _
      | refine LeO.ite ?_ ?_
      | refine LeO.bind ?_ (fun _ => ?_)
    · intro y0 y1 y2 y3 y4
      unfold flotillaref04_zeros.j3
      repeat' first
      | (with_reducible exact ih0 _ _ _ _)
      | (with_reducible exact ih1 _ _ _ _ _ _)
      | (with_reducible exact ih2 _ _ _ _)
      | (with_reducible exact ih3 _ _ _ _ _)
      | (with_reducible exact ih4 _ _ _ _)
      | (with_reducible exact ih5 _ _ _ _ _ _)
      | (with_reducible exact flotillaref04_over.mono _ _ _)
      | (with_reducible exact LeO.refl _)
      | (with_reducible exact LeO.none _)
      | (with_reducible refine LeO.ite ?_ ?_)
      | (with_reducible refine LeO.bind ?_ (fun _ => ?_))
      | exact ih0 _ _ _ _
      | exact ih1 _ _ _ _ _ _
      | exact ih2 _ _ _ _
      | exact ih3 _ _ _ _ _
      | exact ih4 _ _ _ _
      | exact ih5 _ _ _ _ _ _
      | exact flotillaref04_over.mono _ _ _
      | exact LeO.none _
      | refine LeO.ite ?_ ?_
      | refine LeO.bind ?_ (fun _ => ?_)
    · intro y0 y1 y2 y3
      unfold flotillaref04_zeros.j4
      repeat' first
      | (with_reducible exact ih0 _ _ _ _)
      | (with_reducible exact ih1 _ _ _ _ _ _)
      | (with_reducible exact ih2 _ _ _ _)
      | (with_reducible exact ih3 _ _ _ _ _)
      | (with_reducible exact ih4 _ _ _ _)
      | (with_reducible exact ih5 _ _ _ _ _ _)
      | (with_reducible exact flotillaref04_over.mono _ _ _)
      | (with_reducible exact LeO.refl _)
      | (with_reducible exact LeO.none _)
      | (with_reducible refine LeO.ite ?_ ?_)
      | (with_reducible refine LeO.bind ?_ (fun _ => ?_))
      | exact ih0 _ _ _ _
      | exact ih1 _ _ _ _ _ _
      | exact ih2 _ _ _ _
      | exact ih3 _ _ _ _ _
      | exact ih4 _ _ _ _
      | exact ih5 _ _ _ _ _ _
      | exact flotillaref04_over.mono _ _ _
      | exact LeO.none _
      | refine LeO.ite ?_ ?_
      | refine LeO.bind ?_ (fun _ => ?_)
    · intro y0 y1 y2 y3 y4 y5
      unfold flotillaref04_zeros.l3
      repeat' first
      | (with_reducible exact ih0 _ _ _ _)
      | (with_reducible exact ih1 _ _ _ _ _ _)
      | (with_reducible exact ih2 _ _ _ _)
      | (with_reducible exact ih3 _ _ _ _ _)
      | (with_reducible exact ih4 _ _ _ _)
      | (with_reducible exact ih5 _ _ _ _ _ _)
      | (with_reducible exact flotillaref04_over.mono _ _ _)
      | (with_reducible exact LeO.refl _)
      | (with_reducible exact LeO.none _)
      | (with_reducible refine LeO.ite ?_ ?_)
      | (with_reducible refine LeO.bind ?_ (fun _ => ?_))
      | exact ih0 _ _ _ _
      | exact ih1 _ _ _ _ _ _
      | exact ih2 _ _ _ _
      | exact ih3 _ _ _ _ _
      | exact ih4 _ _ _ _
      | exact ih5 _ _ _ _ _ _
      | exact flotillaref04_over.mono _ _ _
      | exact LeO.none _
      | refine LeO.ite ?_ ?_
      | refine LeO.bind ?_ (fun _ => ?_)
theorem flotillaref04_zeros.mono : ∀ a0 a1 k, LeO (flotillaref04_zeros.f k a0 a1) (flotillaref04_zeros.f (k + 1) a0 a1) := by
  intro a0 a1 k
  obtain ⟨ih0, ih1, ih2, ih3, ih4, ih5⟩ := flotillaref04_zeros.mono_l k
  unfold flotillaref04_zeros.f
  repeat' first
      | (with_reducible exact ih0 _ _ _ _)
      | (with_reducible exact ih1 _ _ _ _ _ _)
      | (with_reducible exact ih2 _ _ _ _)
      | (with_reducible exact ih3 _ _ _ _ _)
      | (with_reducible exact ih4 _ _ _ _)
      | (with_reducible exact ih5 _ _ _ _ _ _)
      | (with_reducible exact flotillaref04_over.mono _ _ _)
      | (with_reducible exact LeO.refl _)
      | (with_reducible exact LeO.none _)
      | (with_reducible refine LeO.ite ?_ ?_)
      | (with_reducible refine LeO.bind ?_ (fun _ => ?_))
      | exact ih0 _ _ _ _
      | exact ih1 _ _ _ _ _ _
      | exact ih2 _ _ _ _
      | exact ih3 _ _ _ _ _
      | exact ih4 _ _ _ _
      | exact ih5 _ _ _ _ _ _
      | exact flotillaref04_over.mono _ _ _
      | exact LeO.none _
      | refine LeO.ite ?_ ?_
      | refine LeO.bind ?_ (fun _ => ?_)
set_option maxHeartbeats 8000000 in
set_option maxRecDepth 100000 in
theorem flotillaref04_zeros.calls (k : Nat) (a0 : Int) (a1 : Int) (r : Int) (w : World) (h : flotillaref04_zeros.f k a0 a1 = some r) :
    Calls Tryd.prog 16 #[.int .u32 a0, .int .i64 a1] w fun e w' => e = .returned (.int .u32 r) ∧ Below w.heap.size w w' := by
  have HB := Aside0.mk (Below.refl w.heap.size w)
  have H : (flotillaref04_zeros.l0 k a0 a1 ([] : List Int) 0) = some r := h
  clear h
  have H' := Aside0.mk H
  clear H
  go_enter Tryd.func16, Tryd.ntmps16
  go_wp2
  go_loopg [5, 6] k (fun kq v5 v6 w' => ∃ (x5_1 : List Int) (x6_1 : Int), v6 = .int .i64 x6_1 ∧ Aside0 (flotillaref04_zeros.l0 kq a0 a1 x5_1 x6_1 = some r) ∧ Aside0 (kq ≤ k) ∧ Aside0 (Kd.R (Kd.int .u32) 22 w' w.heap.size (fun _ => True) v5 x5_1) ∧ Aside0 (Below w.heap.size w w'))
  case atStart => exact ⟨(([] : List Int)), (0), (by first | rfl | (simp; done) | (simp [*]; done)), H', ⟨Nat.le_refl _⟩, ⟨by first | exact Kd.R_nil _ _ _ _ _ | exact Kd.N_nil _ _ _ _ _ | exact Kd.V_nil _ _ _ _ _ | exact Kd.Q_nil _ _ _ _ _ | exact Kd.S_nil _ _ _ _ _⟩, ⟨by repeat (first | (with_reducible first | exact HB.out | apply below_alloc | apply pw_below_drewN | apply below_drew1) | exact HB.out)⟩⟩
  case round =>
    clear H'
    try clear c1
    try clear p2
    obtain ⟨x5_1, x6_1, rfl, HA, HK1, HO_5, HB⟩ := hrel
    cases gk with
    | zero => exact absurd HA.out (by simp [flotillaref04_zeros.l0])
    | succ k1 =>
      have H := HA.out
      clear HA
      simp only [flotillaref04_zeros.l0] at H
      by_cases c3 : x6_1 < 32
      · rw [if_pos c3] at H
        have c3b0 : decide (x6_1 < 32) = true := decide_eq_true c3
        clear c3
        by_cases c4 : 0 ≤ x6_1
        · rw [if_pos c4] at H
          have c4b0 := eq_true c4
          have c4b1 : decide (0 ≤ x6_1) = true := decide_eq_true c4
          clear c4
          obtain ⟨ji5, hji5⟩ : ∃ j_ : Int, (shl .u32 1 x6_1) = j_ := ⟨_, rfl⟩
          replace H : (flotillaref04_zeros.l1 k1 a0 a1 x5_1 x6_1 ji5 0) = some r := by first | (rw [hji5] at H; exact H) | (simp only [hji5] at H ⊢; exact H)
          have hji5_ : (IntKind.u32.wrap (1 * 2 ^ min x6_1.toNat 32)) = ji5 := hji5
          have hji5z : x6_1 ≤ 32 → (IntKind.u32.wrap (1 * 2 ^ x6_1.toNat)) = ji5 := shl_small hji5
          have hji5u : (IntKind.u32.wrap (2 ^ min x6_1.toNat 32)) = ji5 := by have h_ := hji5_; rw [Int.one_mul] at h_; exact h_
          have hji5v : x6_1 ≤ 32 → (IntKind.u32.wrap (2 ^ x6_1.toNat)) = ji5 := fun hle_ => by have h_ := hji5z hle_; rw [Int.one_mul] at h_; exact h_
          have H' := Aside0.mk H
          clear H
          go_wp2
          go_loopg [7, 8] k1 (fun kq v7 v8 w' => ∃ (x7_2 : Int) (x8_2 : Int), v7 = .int .u32 x7_2 ∧ v8 = .int .i64 x8_2 ∧ Aside0 (flotillaref04_zeros.l1 kq a0 a1 x5_1 x6_1 x7_2 x8_2 = some r) ∧ Aside0 (kq ≤ k1) ∧ Aside0 (Kd.R (Kd.int .u32) 22 w' w.heap.size (fun _ => True) u5 x5_1) ∧ Aside0 (Below w.heap.size w w'))
          case atStart => exact ⟨(ji5), (0), (by first | rfl | (simp; done) | (simp only [← hji5] <;> (first | rfl | simp)) | (simp [*]; done)), (by first | rfl | (simp; done) | (simp [*]; done)), H', ⟨Nat.le_refl _⟩, ⟨by (with_reducible repeat (first | apply Kd.R_alloc | apply Kd.R_drewN | apply Kd.R_drew)); exact HO_5.out⟩, ⟨by repeat (first | (with_reducible first | exact HB.out | apply below_alloc | apply pw_below_drewN | apply below_drew1) | exact HB.out)⟩⟩
          case round =>
            clear H'
            try clear c1
            try clear p2
            try clear c3
            try clear c3b0
            try clear c4
            try clear c4b0
            try clear c4b1
            try clear p2
            obtain ⟨x7_2, x8_2, rfl, rfl, HA, HK2, HO_5, HB⟩ := hrel
            cases gk with
            | zero => exact absurd HA.out (by simp [flotillaref04_zeros.l1])
            | succ k2 =>
              have H := HA.out
              clear HA
              simp only [flotillaref04_zeros.l1] at H
              by_cases c6 : x8_2 < 8
              · rw [if_pos c6] at H
                have c6b0 : decide (x8_2 < 8) = true := decide_eq_true c6
                clear c6
                replace H := Option.bind_eq_some_iff.mp H
                obtain ⟨t102, A70, H⟩ := H
                replace H : (flotillaref04_zeros.l1 k2 a0 a1 x5_1 x6_1 t102 (wrap64 (x8_2 + 1))) = some r := H
                have A7 := Aside0.mk A70
                clear A70
                have H' := Aside0.mk H
                clear H
                go_wp2_with (first | ((with_reducible refine gate_callee (f := 28) rfl ?_); refine goesL_ (some 23) rfl rfl Tryd.func28 (by kernel_rfl) rfl #[.int .u32 x7_2] rfl (by (try simp only [List.map_toArray, List.map_cons, List.map_nil]); first | done | rfl | (simp only [List.length_drop, List.length_take]; rfl)) ?_; (with_reducible refine (flotillaref04_bit.calls x7_2 t102 _ A7.out).mono ?_); rintro e w' ⟨rfl, ⟨nd, rfl⟩⟩; refine ⟨_, rfl, ?_⟩))
                go_roundg k2
                case measure => have := HK1.out; have := HK2.out; omega
                case rel => exact ⟨(t102), (wrap64 (x8_2 + 1)), (by first | rfl | (simp; done) | (simp [*]; done)), (by first | rfl | (simp; done) | (simp [*]; done)), H', ⟨by have := HK1.out; have := HK2.out; omega⟩, ⟨by (with_reducible repeat (first | apply Kd.R_alloc | apply Kd.R_drewN | apply Kd.R_drew)); exact HO_5.out⟩, ⟨by repeat (first | (with_reducible first | exact HB.out | apply below_alloc | apply pw_below_drewN | apply below_drew1) | exact HB.out)⟩⟩
              · rw [if_neg c6] at H
                have c6b0 : decide (x8_2 < 8) = false := decide_eq_false c6
                clear c6
                by_cases c8 : x5_1.length < 35184372088832
                · rw [if_pos c8] at H
                  have LMc8 := Aside0.mk c8
                  clear c8
                  obtain ⟨y103, hy103⟩ : ∃ y_ : List Int, y_ = (x5_1 ++ [x7_2]) := ⟨_, rfl⟩
                  replace H : (flotillaref04_zeros.l0 k2 a0 a1 y103 (wrap64 (x6_1 + 1))) = some r := by first | (rw [hy103]; with_reducible exact H) | (have H2_ := (Option.bind_some _ _).symm.trans H; rw [hy103]; with_reducible exact H2_) | (have H2_ := (Option.bind_some _ _).symm.trans H; with_reducible exact H2_) | with_reducible exact H | (rw [hy103]; exact H) | exact H
                  have Ny103 := Aside0.mk hy103
                  clear hy103
                  have H' := Aside0.mk H
                  clear H
                  go_wp2_with (first | ((with_reducible refine gate_builtin (b := .append) (xs := #[.tmp 24, .tmp 26]) rfl ?_); at_builtin; refine Kd.R_append (Kd.int .u32) (w0 := w) w.heap.size rfl (.tmp 24) (.tmp 26) 56 22 (.int .u32 0) 4 rfl Tryd.underlying56 info22 rfl (by decide) (by omega) u5 x5_1 x7_2 [.int .u32 x7_2] (fun _ => True) (fun _ => False) rfl rfl ?aP (fun _ hk => hk.elim) ?aF ?aO ?aB ?aS ?aL ?_; (case aP => exact rfl); (case aB => exact (by repeat (first | (with_reducible first | exact HB.out | apply below_alloc | apply pw_below_drewN | apply below_drew1) | exact HB.out))); (case aF => exact (fun _ _ => trivial)); (case aO => exact (by (with_reducible repeat (first | apply Kd.R_alloc | apply Kd.R_drewN | apply Kd.R_drew)); exact HO_5.out)); (case aS => exact (below_size (by repeat (first | (with_reducible first | exact HB.out | apply below_alloc | apply pw_below_drewN | apply below_drew1) | exact HB.out)))); (case aL => have := LMc8.out; omega); intro v104 w9 ho hb hg hat; rw [← Ny103.out] at ho; have n0_ := Aside0.mk (hb); have n1_ := Aside0.mk (ho); clear HB; clear HO_5; have HB := n0_; have HO105 := n1_; clear n0_ n1_; clear ho hb hg hat))
                  go_roundg k2
                  case measure => have := HK1.out; have := HK2.out; omega
                  case rel => exact ⟨(y103), (wrap64 (x6_1 + 1)), (by first | rfl | (simp; done) | (simp [*]; done)), H', ⟨by have := HK1.out; have := HK2.out; omega⟩, ⟨by (with_reducible repeat (first | apply Kd.R_alloc | apply Kd.R_drewN | apply Kd.R_drew)); exact HO105.out⟩, ⟨by repeat (first | (with_reducible first | exact HB.out | apply below_alloc | apply pw_below_drewN | apply below_drew1) | exact HB.out)⟩⟩
                · rw [if_neg c8] at H
                  exact absurd H (by simp)
        · rw [if_neg c4] at H
          exact absurd H (by simp)
      · rw [if_neg c3] at H
        have c3b0 : decide (x6_1 < 32) = false := decide_eq_false c3
        clear c3
        have H' := Aside0.mk H
        clear H
        go_wp2
        go_loopg [0, 1, 5, 9] k1 (fun kq v0 v1 v5 v9 w' => ∃ (x0_2 : Int) (x1_2 : Int) (x5_2 : List Int) (x9_2 : Int), v0 = .int .u32 x0_2 ∧ v1 = .int .i64 x1_2 ∧ v9 = .int .i64 x9_2 ∧ Aside0 (flotillaref04_zeros.l2 kq x0_2 x1_2 x5_2 x9_2 = some r) ∧ Aside0 (kq ≤ k1) ∧ Aside0 (Kd.R (Kd.int .u32) 22 w' w.heap.size (fun _ => True) v5 x5_2) ∧ Aside0 (Below w.heap.size w w'))
        case atStart => exact ⟨(a0), (a1), (x5_1), (0), (by first | rfl | (simp; done) | (simp [*]; done)), (by first | rfl | (simp; done) | (simp [*]; done)), (by first | rfl | (simp; done) | (simp [*]; done)), H', ⟨Nat.le_refl _⟩, ⟨by (with_reducible repeat (first | apply Kd.R_alloc | apply Kd.R_drewN | apply Kd.R_drew)); exact HO_5.out⟩, ⟨by repeat (first | (with_reducible first | exact HB.out | apply below_alloc | apply pw_below_drewN | apply below_drew1) | exact HB.out)⟩⟩
        case round =>
          clear H'
          try clear c1
          try clear c2
          try clear p2
          try clear c3
          try clear c3b0
          try clear c4
          try clear c4b0
          try clear c4b1
          try clear c6
          try clear c6b0
          try clear p6
          try clear c8
          try clear p2
          obtain ⟨x0_2, x1_2, x5_2, x9_2, rfl, rfl, rfl, HA, HK2, HO_5, HB⟩ := hrel
          cases gk with
          | zero => exact absurd HA.out (by simp [flotillaref04_zeros.l2])
          | succ k2 =>
            have H := HA.out
            clear HA
            simp only [flotillaref04_zeros.l2] at H
            have HC10 := Aside0.mk H
            clear H
            go_upto_region 12 with (fail)
            go_cut [33] (fun v33 wc => ∃ (kq : Nat) (x33_9 : Bool), v33 = .bool x33_9 ∧ Aside0 (flotillaref04_zeros.j3 kq x0_2 x1_2 x5_2 x9_2 x33_9 = some r) ∧ Aside0 (kq ≤ k2) ∧ Aside0 (Kd.R (Kd.int .u32) 22 wc w.heap.size (fun _ => True) u5 x5_2) ∧ Aside0 (Below w.heap.size w wc))
            case first =>
              have H := HC10.out
              clear HC10
              by_cases c11 : x9_2 < 63
              · rw [if_pos c11] at H
                have c11b0 : decide (x9_2 < 63) = true := decide_eq_true c11
                clear c11
                (first | rw [c11b0] | (simp only [i64_w, i32_w]; rw [c11b0]) | skip)
                have H' := Aside0.mk H
                clear H
                go_wp2
                go_meet
                case rel => exact ⟨_, (decide (x1_2 > 0)), (by first | rfl | (simp; done) | (simp [*]; done)), H', ⟨by have := HK1.out; have := HK2.out; first | omega | exact Nat.le_refl _⟩, ⟨by (with_reducible repeat (first | apply Kd.R_alloc | apply Kd.R_drewN | apply Kd.R_drew)); exact HO_5.out⟩, ⟨by repeat (first | (with_reducible first | exact HB.out | apply below_alloc | apply pw_below_drewN | apply below_drew1) | exact HB.out)⟩⟩
              · rw [if_neg c11] at H
                have c11b0 : decide (x9_2 < 63) = false := decide_eq_false c11
                clear c11
                (first | rw [c11b0] | (simp only [i64_w, i32_w]; rw [c11b0]) | skip)
                have H' := Aside0.mk H
                clear H
                go_wp2
                go_meet
                case rel => exact ⟨_, (false), (by first | rfl | (simp; done) | (simp [*]; done)), H', ⟨by have := HK1.out; have := HK2.out; first | omega | exact Nat.le_refl _⟩, ⟨by (with_reducible repeat (first | apply Kd.R_alloc | apply Kd.R_drewN | apply Kd.R_drew)); exact HO_5.out⟩, ⟨by repeat (first | (with_reducible first | exact HB.out | apply below_alloc | apply pw_below_drewN | apply below_drew1) | exact HB.out)⟩⟩
            case rest =>
              clear HC10
              try clear c1
              try clear c2
              try clear p2
              try clear c3
              try clear c3b0
              try clear c4
              try clear c4b0
              try clear c4b1
              try clear c6
              try clear c6b0
              try clear p6
              try clear c8
              try clear c11
              try clear c11b0
              try clear p2
              try clear p6
              obtain ⟨kq, x33_9, rfl, HA, HJ9, HO_5, HB⟩ := hcut
              cases kq with
              | zero => exact absurd HA.out (by simp [flotillaref04_zeros.j3])
              | succ kj9 =>
                have H := HA.out
                clear HA
                simp only [flotillaref04_zeros.j3] at H
                by_cases c12 : x33_9 = true
                · subst c12
                  have H1 : (if (Go.bits .and .i64 x1_2 1) = 1 then ((flotillaref04_over.f kj9 x5_2 x0_2).bind fun t106 => (flotillaref04_zeros.j4 kj9 t106 x1_2 x5_2 x9_2)) else (flotillaref04_zeros.j4 kj9 x0_2 x1_2 x5_2 x9_2)) = some r := by rw [if_pos rfl] at H; exact H
                  clear H
                  have H := H1
                  clear H1
                  have HC13 := Aside0.mk H
                  clear H
                  go_upto_if 38 with (fail)
                  go_cut [0] (fun v0 wc => ∃ (kq : Nat) (x0_12 : Int), v0 = .int .u32 x0_12 ∧ Aside0 (flotillaref04_zeros.j4 kq x0_12 x1_2 x5_2 x9_2 = some r) ∧ Aside0 (kq ≤ kj9) ∧ Aside0 (Kd.R (Kd.int .u32) 22 wc w.heap.size (fun _ => True) u5 x5_2) ∧ Aside0 (Below w.heap.size w wc))
                  case first =>
                    have H := HC13.out
                    clear HC13
                    by_cases c14 : (Go.bits .and .i64 x1_2 1) = 1
                    · rw [if_pos c14] at H
                      have c14b0 : ((Go.bits .and .i64 x1_2 1) == 1) = true := beq_iff_eq.mpr c14
                      have c14b1 : ((Go.bits .and .i64 x1_2 1) != 1) = false := bne_eq_false_iff_eq.mpr c14
                      clear c14
                      (first | rw [c14b0] | (simp only [i64_w, i32_w]; rw [c14b0]) | skip)
                      replace H := Option.bind_eq_some_iff.mp H
                      obtain ⟨t106, A150, H⟩ := H
                      replace H : (flotillaref04_zeros.j4 kj9 t106 x1_2 x5_2 x9_2) = some r := H
                      have A15 := Aside0.mk A150
                      clear A150
                      have H' := Aside0.mk H
                      clear H
                      obtain ⟨Ao16, co16, eo16⟩ := Kd.R_slice HO_5.out
                      subst eo16
                      go_wp2_with (first | ((with_reducible refine gate_callee (f := 29) rfl ?_); refine goesL_ (some 41) rfl rfl Tryd.func29 (by kernel_rfl) rfl #[.slice Ao16 x5_2.length co16, .int .u32 x0_2] rfl (by (try simp only [List.map_toArray, List.map_cons, List.map_nil]); first | done | rfl | (simp only [List.length_drop, List.length_take]; rfl)) ?_; (with_reducible refine (flotillaref04_over.calls kj9 _ _ x5_2 x0_2 t106 _ ?side1 ?side2 A15.out).mono ?_); (case side1 => repeat (first | exact (Kd.R_reads' HO_5.out).2.2 | (with_reducible refine Kd.C_alloc ?_ _) | (with_reducible refine Kd.C_drewN ?_ _) | (with_reducible refine Kd.C_drew ?_))); (case side2 => exact (Kd.R_reads' HO_5.out).2.1); rintro e w' ⟨rfl, ⟨nd, rfl⟩⟩; refine ⟨_, rfl, ?_⟩))
                      go_meet
                      case rel => exact ⟨_, (t106), (by first | rfl | (simp; done) | (simp [*]; done)), H', ⟨by have := HK1.out; have := HK2.out; have := HJ9.out; first | omega | exact Nat.le_refl _⟩, ⟨by (with_reducible repeat (first | apply Kd.R_alloc | apply Kd.R_drewN | apply Kd.R_drew)); exact HO_5.out⟩, ⟨by repeat (first | (with_reducible first | exact HB.out | apply below_alloc | apply pw_below_drewN | apply below_drew1) | exact HB.out)⟩⟩
                    · rw [if_neg c14] at H
                      have c14b0 : ((Go.bits .and .i64 x1_2 1) == 1) = false := beq_eq_false_iff_ne.mpr c14
                      have c14b1 : ((Go.bits .and .i64 x1_2 1) != 1) = true := bne_iff_ne.mpr c14
                      (first | rw [c14b0] | (simp only [i64_w, i32_w]; rw [c14b0]) | skip)
                      have H' := Aside0.mk H
                      clear H
                      go_wp2
                      go_meet
                      case rel => exact ⟨_, (x0_2), (by first | rfl | (simp; done) | (simp [*]; done)), H', ⟨by have := HK1.out; have := HK2.out; have := HJ9.out; first | omega | exact Nat.le_refl _⟩, ⟨by (with_reducible repeat (first | apply Kd.R_alloc | apply Kd.R_drewN | apply Kd.R_drew)); exact HO_5.out⟩, ⟨by repeat (first | (with_reducible first | exact HB.out | apply below_alloc | apply pw_below_drewN | apply below_drew1) | exact HB.out)⟩⟩
                  case rest =>
                    clear HC13
                    try clear c1
                    try clear c2
                    try clear p2
                    try clear c3
                    try clear c3b0
                    try clear c4
                    try clear c4b0
                    try clear c4b1
                    try clear c6
                    try clear c6b0
                    try clear p6
                    try clear c8
                    try clear c11
                    try clear c11b0
                    try clear c12
                    try clear c14
                    try clear c14b0
                    try clear c14b1
                    try clear c16
                    try clear p2
                    try clear p6
                    obtain ⟨kq, x0_12, rfl, HA, HJ12, HO_5, HB⟩ := hcut
                    cases kq with
                    | zero => exact absurd HA.out (by simp [flotillaref04_zeros.j4])
                    | succ kj12 =>
                      have H := HA.out
                      clear HA
                      simp only [flotillaref04_zeros.j4] at H
                      have H' := Aside0.mk H
                      clear H
                      go_wp2
                      go_loopg [10, 11] kj12 (fun kq v10 v11 w' => ∃ (x10_5 : List Int) (x11_5 : Int), v11 = .int .i64 x11_5 ∧ Aside0 (flotillaref04_zeros.l3 kq x0_12 x1_2 x5_2 x9_2 x10_5 x11_5 = some r) ∧ Aside0 (kq ≤ kj12) ∧ Aside0 (Kd.R (Kd.int .u32) 22 w' w.heap.size (fun k_ => some k_ ≠ (v10 : Value).ownBlock) u5 x5_2) ∧ Aside0 (Kd.R (Kd.int .u32) 22 w' w.heap.size (fun k_ => some k_ ≠ (u5 : Value).ownBlock) v10 x10_5) ∧ Aside0 (Below w.heap.size w w'))
                      case atStart => exact ⟨(([] : List Int)), (0), (by first | rfl | (simp; done) | (simp [*]; done)), H', ⟨Nat.le_refl _⟩, ⟨by (with_reducible repeat (first | apply Kd.R_alloc | apply Kd.R_drewN | apply Kd.R_drew)); exact Kd.R_mono HO_5.out (fun _ hk => (by simp [Value.ownBlock]))⟩, ⟨by first | exact Kd.R_nil _ _ _ _ _ | exact Kd.N_nil _ _ _ _ _ | exact Kd.V_nil _ _ _ _ _ | exact Kd.Q_nil _ _ _ _ _ | exact Kd.S_nil _ _ _ _ _⟩, ⟨by repeat (first | (with_reducible first | exact HB.out | apply below_alloc | apply pw_below_drewN | apply below_drew1) | exact HB.out)⟩⟩
                      case round =>
                        clear H'
                        try clear c1
                        try clear c2
                        try clear p2
                        try clear c3
                        try clear c3b0
                        try clear c4
                        try clear c4b0
                        try clear c4b1
                        try clear c6
                        try clear c6b0
                        try clear p6
                        try clear c8
                        try clear c11
                        try clear c11b0
                        try clear c12
                        try clear c14
                        try clear c14b0
                        try clear c14b1
                        try clear c16
                        try clear p2
                        try clear p6
                        obtain ⟨x10_5, x11_5, rfl, HA, HK5, HO_5, HO_10, HB⟩ := hrel
                        cases gk with
                        | zero => exact absurd HA.out (by simp [flotillaref04_zeros.l3])
                        | succ k5 =>
                          have H := HA.out
                          clear HA
                          simp only [flotillaref04_zeros.l3] at H
                          by_cases c17 : x11_5 < 32
                          · rw [if_pos c17] at H
                            have c17b0 : decide (x11_5 < 32) = true := decide_eq_true c17
                            clear c17
                            by_cases c18 : 0 ≤ x11_5
                            · rw [if_pos c18] at H
                              have c18b0 : decide (0 ≤ x11_5) = true := decide_eq_true c18
                              clear c18
                              by_cases c19 : x11_5 < (x5_2.length : Int)
                              · rw [if_pos c19] at H
                                have c19b0 : decide (x11_5 < (x5_2.length : Int)) = true := decide_eq_true c19
                                clear c19
                                replace H := Option.bind_eq_some_iff.mp H
                                obtain ⟨t108, A200, H⟩ := H
                                replace H : (if x10_5.length < 35184372088832 then (flotillaref04_zeros.l3 k5 x0_12 x1_2 x5_2 x9_2 (x10_5 ++ [t108]) (wrap64 (x11_5 + 1))) else (none)) = some r := H
                                have A20 := Aside0.mk A200
                                clear A200
                                by_cases c21 : x10_5.length < 35184372088832
                                · rw [if_pos c21] at H
                                  have LMc21 := Aside0.mk c21
                                  clear c21
                                  obtain ⟨y109, hy109⟩ : ∃ y_ : List Int, y_ = (x10_5 ++ [t108]) := ⟨_, rfl⟩
                                  replace H : (flotillaref04_zeros.l3 k5 x0_12 x1_2 x5_2 x9_2 y109 (wrap64 (x11_5 + 1))) = some r := by first | (rw [hy109]; with_reducible exact H) | (have H2_ := (Option.bind_some _ _).symm.trans H; rw [hy109]; with_reducible exact H2_) | (have H2_ := (Option.bind_some _ _).symm.trans H; with_reducible exact H2_) | with_reducible exact H | (rw [hy109]; exact H) | exact H
                                  have Ny109 := Aside0.mk hy109
                                  clear hy109
                                  have H' := Aside0.mk H
                                  clear H
                                  obtain ⟨Ao22, co22, eo22⟩ := Kd.R_slice HO_5.out
                                  subst eo22
                                  have p107 : 0 ≤ (x11_5 : Int) := of_decide_eq_true (by first | (with_reducible assumption) | assumption)
                                  have q107 : x11_5 < (x5_2.length : Int) := of_decide_eq_true (by first | (with_reducible assumption) | assumption)
                                  obtain ⟨ad107, e107, hx107_0⟩ := Kd.at_int (Kd.R_reads' HO_5.out).2.2 x11_5 p107 q107
                                  cases e107
                                  replace p107 := eq_true p107
                                  replace q107 := eq_true q107
                                  go_wp2_with (first | ((with_reducible refine gate_callee (f := 29) rfl ?_); refine goesL_ (some 52) rfl rfl Tryd.func29 (by kernel_rfl) rfl #[.slice (some ad107) x5_2.length co22, .int .u32 (rd x5_2 x11_5)] rfl (by (try simp only [List.map_toArray, List.map_cons, List.map_nil]); first | done | rfl | (simp only [List.length_drop, List.length_take]; rfl)) ?_; (with_reducible refine (flotillaref04_over.calls k5 _ _ x5_2 (rd x5_2 x11_5) t108 _ ?side1 ?side2 A20.out).mono ?_); (case side1 => repeat (first | exact (Kd.R_reads' HO_5.out).2.2 | (with_reducible refine Kd.C_alloc ?_ _) | (with_reducible refine Kd.C_drewN ?_ _) | (with_reducible refine Kd.C_drew ?_))); (case side2 => exact (Kd.R_reads' HO_5.out).2.1); rintro e w' ⟨rfl, ⟨nd, rfl⟩⟩; refine ⟨_, rfl, ?_⟩) | ((with_reducible refine gate_builtin (b := .append) (xs := #[.tmp 46, .tmp 53]) rfl ?_); at_builtin; refine Kd.R_append (Kd.int .u32) (w0 := w) w.heap.size rfl (.tmp 46) (.tmp 53) 56 22 (.int .u32 0) 4 rfl Tryd.underlying56 info22 rfl (by decide) (by omega) u10 x10_5 t108 [.int .u32 t108] (fun k_ => some k_ ≠ (.slice (some ad107) x5_2.length co22 : Value).ownBlock) (fun _ => False) rfl rfl ?aP (fun _ hk => hk.elim) ?aF ?aO ?aB ?aS ?aL ?_; (case aP => exact rfl); (case aB => exact (by repeat (first | (with_reducible first | exact HB.out | apply below_alloc | apply pw_below_drewN | apply below_drew1) | exact HB.out))); (case aF => exact (fun k_ hk => Kd.fresh' (Kd.R_lt (by (with_reducible repeat (first | apply Kd.R_alloc | apply Kd.R_drewN | apply Kd.R_drew)); exact HO_5.out)) k_ hk)); (case aO => exact (by (with_reducible repeat (first | apply Kd.R_alloc | apply Kd.R_drewN | apply Kd.R_drew)); exact HO_10.out)); (case aS => exact (below_size (by repeat (first | (with_reducible first | exact HB.out | apply below_alloc | apply pw_below_drewN | apply below_drew1) | exact HB.out)))); (case aL => have := LMc21.out; omega); intro v110 w23 ho hb hg hat; rw [← Ny109.out] at ho; have n0_ := Aside0.mk (Kd.R_after (ok := (fun _ => True)) (by (with_reducible repeat (first | apply Kd.R_alloc | apply Kd.R_drewN | apply Kd.R_drew)); exact Kd.R_mono HO_5.out (fun _ hk => ⟨trivial, hk⟩)) hg hat); have n1_ := Aside0.mk (hb); have n2_ := Aside0.mk (ho); clear HO_5; clear HB; clear HO_10; have HO_5 := n0_; have HB := n1_; have HO111 := n2_; clear n0_ n1_ n2_; clear ho hb hg hat))
                                  go_roundg k5
                                  case measure => have := HK1.out; have := HK2.out; have := HJ9.out; have := HJ12.out; have := HK5.out; omega
                                  case rel => exact ⟨(y109), (wrap64 (x11_5 + 1)), (by first | rfl | (simp; done) | (simp [*]; done)), H', ⟨by have := HK1.out; have := HK2.out; have := HJ9.out; have := HJ12.out; have := HK5.out; omega⟩, ⟨by (with_reducible repeat (first | apply Kd.R_alloc | apply Kd.R_drewN | apply Kd.R_drew)); exact Kd.R_mono HO_5.out (fun _ hk => hk.2)⟩, ⟨by (with_reducible repeat (first | apply Kd.R_alloc | apply Kd.R_drewN | apply Kd.R_drew)); exact HO111.out⟩, ⟨by repeat (first | (with_reducible first | exact HB.out | apply below_alloc | apply pw_below_drewN | apply below_drew1) | exact HB.out)⟩⟩
                                · rw [if_neg c21] at H
                                  exact absurd H (by simp)
                              · rw [if_neg c19] at H
                                exact absurd H (by simp)
                            · rw [if_neg c18] at H
                              exact absurd H (by simp)
                          · rw [if_neg c17] at H
                            have c17b0 : decide (x11_5 < 32) = false := decide_eq_false c17
                            clear c17
                            have H' := Aside0.mk H
                            clear H
                            go_wp2
                            go_roundg k5
                            case measure => have := HK1.out; have := HK2.out; have := HJ9.out; have := HJ12.out; have := HK5.out; omega
                            case rel => exact ⟨(x0_12), (x1_2 / 2), (x10_5), (wrap64 (x9_2 + 1)), (by first | rfl | (simp; done) | (simp [*]; done)), (by first | rfl | (simp; done) | (simp [*]; done)), (by first | rfl | (simp; done) | (simp [*]; done)), H', ⟨by have := HK1.out; have := HK2.out; have := HJ9.out; have := HJ12.out; have := HK5.out; omega⟩, ⟨by (with_reducible repeat (first | apply Kd.R_alloc | apply Kd.R_drewN | apply Kd.R_drew)); exact Kd.R_mono HO_10.out (fun _ hk => trivial)⟩, ⟨by repeat (first | (with_reducible first | exact HB.out | apply below_alloc | apply pw_below_drewN | apply below_drew1) | exact HB.out)⟩⟩
                · replace c12 := Bool.eq_false_iff.mpr c12
                  subst c12
                  have H1 : (some x0_2) = some r := by rw [if_neg (show ¬ (false = true) by decide)] at H; exact H
                  clear H
                  have H := H1
                  clear H1
                  obtain rfl := Option.some.inj H
                  go_wp2
                  go_ret
                  exact ⟨by first | rfl | (simp [errW_none, errW_some] <;> rfl) | (simp [*, errW_none, errW_some] <;> rfl), by repeat (first | (with_reducible first | exact HB.out | apply below_alloc | apply pw_below_drewN | apply below_drew1) | exact HB.out)⟩
open Go.Proofs.YtckihppdjoianaaDoor.Crc in
theorem flotillaref04_zeros.bits8 (R : Int) (x0 x1 : Int) (x5 : List Int) (x6 : Int) (i : Nat) (hl : x5.length < 35184372088832) (hi : i < 32)
    (h : Ev (fun k => flotillaref04_zeros.l0 k x0 x1 (x5 ++ [((it 8 (2 ^ i) : Nat) : Int)]) (wrap64 (x6 + 1))) R) :
    ∀ j b : Nat, j + b = 8 → Ev (fun k => flotillaref04_zeros.l1 k x0 x1 x5 x6 ((it b (2 ^ i) : Nat) : Int) (b : Int)) R := by
  intro j
  have hp : (2 : Nat) ^ i < 2 ^ 32 := Nat.pow_lt_pow_right (by decide) hi
  induction j with
  | zero =>
    intro b hb
    obtain rfl : b = 8 := by omega
    refine Ev.step (fun _ => by simp only [flotillaref04_zeros.l1]; rfl) ?_
    exact Ev.neg (by omega) (Ev.pos hl h)
  | succ j ih =>
    intro b hb
    refine Ev.step (fun _ => by simp only [flotillaref04_zeros.l1]; rfl) ?_
    refine Ev.pos (by omega) ?_
    have e : flotillaref04_bit.f ((it b (2 ^ i) : Nat) : Int) = some ((Crc.step (it b (2 ^ i)) : Nat) : Int) := bit_go (it_lt b hp)
    refine Ev.val e ?_
    have e2 : Crc.step (it b (2 ^ i)) = it (b + 1) (2 ^ i) := by rw [it_add]; rfl
    rw [e2, wu_one b (by omega)]
    exact ih (b + 1) (by omega)
open Go.Proofs.YtckihppdjoianaaDoor.Crc in
theorem flotillaref04_zeros.fill (R : Int) (x0 x1 : Int) (h : Ev (fun k => flotillaref04_zeros.l2 k x0 x1 (flotillaref04_over.tab 8) 0) R) :
    ∀ d i : Nat, i + d = 32 → Ev (fun k => flotillaref04_zeros.l0 k x0 x1 ((flotillaref04_over.tab 8).take i) (i : Int)) R := by
  intro d
  induction d with
  | zero =>
    intro i hi
    obtain rfl : i = 32 := by omega
    refine Ev.step (fun _ => by simp only [flotillaref04_zeros.l0]; rfl) ?_
    rw [List.take_of_length_le (by rw [flotillaref04_over.tab_len]; omega)]
    exact Ev.neg (by omega) h
  | succ d ih =>
    intro i hi
    have hlt : i < 32 := by omega
    have hlt2 : i < (flotillaref04_over.tab 8).length := by rw [flotillaref04_over.tab_len]; exact hlt
    refine Ev.step (fun _ => by simp only [flotillaref04_zeros.l0]; rfl) ?_
    refine Ev.pos (by omega) (Ev.pos (by omega) ?_)
    have e : shl .u32 1 (i : Int) = ((it 0 (2 ^ i) : Nat) : Int) := by
      unfold shl
      rw [Int.toNat_natCast, Nat.min_eq_left (by simp [IntKind.bits]; omega), Int.one_mul, IntKind.wrap_u32]
      exact Go.Proofs.YtckihppdjoianaaDoor.Pow.pow_int hlt
    rw [e]
    refine flotillaref04_zeros.bits8 R x0 x1 _ _ i (by rw [List.length_take]; omega) hlt ?_ 8 0 rfl
    rw [wu_one i (by omega)]
    have e2 : (flotillaref04_over.tab 8).take i ++ [((it 8 (2 ^ i) : Nat) : Int)] = (flotillaref04_over.tab 8).take (i + 1) := by
      rw [List.take_succ_eq_append_getElem hlt2]
      have := flotillaref04_over.tab_rd 8 i hlt
      rw [rd_nat, List.getD_eq_getElem?_getD, List.getElem?_eq_getElem hlt2, Option.getD_some] at this
      rw [this]
    rw [e2]
    exact ih (i + 1) (by omega)
open Go.Proofs.YtckihppdjoianaaDoor.Crc in
theorem flotillaref04_zeros.two (R : Int) (x0 x1 x9 : Int) (M : Nat) (h : Ev (fun k => flotillaref04_zeros.l2 k x0 (x1 / 2) (flotillaref04_over.tab (M + M)) (wrap64 (x9 + 1))) R) :
    ∀ d i : Nat, i + d = 32 → Ev (fun k => flotillaref04_zeros.l3 k x0 x1 (flotillaref04_over.tab M) x9 ((flotillaref04_over.tab (M + M)).take i) (i : Int)) R := by
  intro d
  induction d with
  | zero =>
    intro i hi
    obtain rfl : i = 32 := by omega
    refine Ev.step (fun _ => by simp only [flotillaref04_zeros.l3]; rfl) ?_
    rw [List.take_of_length_le (by rw [flotillaref04_over.tab_len]; omega)]
    exact Ev.neg (by omega) h
  | succ d ih =>
    intro i hi
    have hlt : i < 32 := by omega
    have hlt2 : i < (flotillaref04_over.tab (M + M)).length := by rw [flotillaref04_over.tab_len]; exact hlt
    have hp : (2 : Nat) ^ i < 2 ^ 32 := Nat.pow_lt_pow_right (by decide) hlt
    refine Ev.step (fun _ => by simp only [flotillaref04_zeros.l3]; rfl) ?_
    refine Ev.pos (by omega) (Ev.pos (by omega) (Ev.pos (by rw [flotillaref04_over.tab_len]; omega) ?_))
    rw [flotillaref04_over.tab_rd M i hlt]
    refine Ev.bind (flotillaref04_over.ev M _ (it_lt M hp)) ?_
    refine Ev.pos (by rw [List.length_take]; omega) ?_
    rw [wu_one i (by omega), ← it_add]
    have e2 : (flotillaref04_over.tab (M + M)).take i ++ [((it (M + M) (2 ^ i) : Nat) : Int)] = (flotillaref04_over.tab (M + M)).take (i + 1) := by
      rw [List.take_succ_eq_append_getElem hlt2]
      have := flotillaref04_over.tab_rd (M + M) i hlt
      rw [rd_nat, List.getD_eq_getElem?_getD, List.getElem?_eq_getElem hlt2, Option.getD_some] at this
      rw [this]
    rw [e2]
    exact ih (i + 1) (by omega)
open Go.Proofs.YtckihppdjoianaaDoor.Crc in
theorem flotillaref04_zeros.main : ∀ (t r n M : Nat), r < 2 ^ 32 → t ≤ 63 → n < 2 ^ t → Ev (fun k => flotillaref04_zeros.l2 k (r : Int) (n : Int) (flotillaref04_over.tab M) ((63 - t : Nat) : Int)) ((it (M * n) r : Nat) : Int) := by
  intro t
  induction t with
  | zero =>
    intro r n M hr ht hn
    obtain rfl : n = 0 := by omega
    refine Ev.step (fun _ => by simp only [flotillaref04_zeros.l2]; rfl) ?_
    refine Ev.neg (by omega) ?_
    refine Ev.step (fun _ => by simp only [flotillaref04_zeros.j3]; rfl) ?_
    exact Ev.neg (by decide) (Ev.now _)
  | succ t ih =>
    intro r n M hr ht hn
    refine Ev.step (fun _ => by simp only [flotillaref04_zeros.l2]; rfl) ?_
    refine Ev.pos (by omega) ?_
    refine Ev.step (fun _ => by simp only [flotillaref04_zeros.j3]; rfl) ?_
    by_cases h0 : n = 0
    · subst h0
      refine Ev.neg (by simp) ?_
      exact Ev.now _
    · refine Ev.pos (by simp; omega) ?_
      have hn63 : n < 9223372036854775808 := Nat.lt_of_lt_of_le hn (Nat.pow_le_pow_right (n := 2) (by decide) (show t + 1 ≤ 63 by omega))
      have e1 := Go.Proofs.YtckihppdjoianaaDoor.Pow.and1_i64 n hn63
      have en : (n : Int) / 2 = ((n / 2 : Nat) : Int) := by omega
      have ew : wrap64 (((63 - (t + 1) : Nat) : Int) + 1) = ((63 - t : Nat) : Int) := by rw [wu_one _ (by omega)]; congr 1; omega
      have hh : n / 2 < 2 ^ t := by rw [Nat.pow_succ] at hn; omega
      by_cases hb : n % 2 = 1
      · refine Ev.pos (by rw [e1]; omega) ?_
        refine Ev.bind (flotillaref04_over.ev M r hr) ?_
        refine Ev.step (fun _ => by simp only [flotillaref04_zeros.j4]; rfl) ?_
        refine flotillaref04_zeros.two _ _ _ _ M ?_ 32 0 rfl
        rw [en, ew]
        refine Ev.cast ?_ (ih (it M r) (n / 2) (M + M) (it_lt M hr) (by omega) hh)
        rw [← it_add]
        congr 2
        have : n = 2 * (n / 2) + 1 := by omega
        generalize n / 2 = q at *
        subst this
        rw [Nat.mul_add, Nat.add_mul, Nat.mul_left_comm, Nat.two_mul]
        omega
      · refine Ev.neg (by rw [e1]; omega) ?_
        refine Ev.step (fun _ => by simp only [flotillaref04_zeros.j4]; rfl) ?_
        refine flotillaref04_zeros.two _ _ _ _ M ?_ 32 0 rfl
        rw [en, ew]
        refine Ev.cast ?_ (ih r (n / 2) (M + M) hr (by omega) hh)
        congr 2
        have : n = 2 * (n / 2) := by omega
        generalize n / 2 = q at *
        subst this
        rw [Nat.add_mul, Nat.mul_left_comm, Nat.two_mul]
open Go.Proofs.YtckihppdjoianaaDoor.Crc in
theorem flotillaref04_zeros.ev (r n : Nat) (hr : r < 2 ^ 32) (hn : n < 9223372036854775808) : Ev (fun k => flotillaref04_zeros.f k (r : Int) (n : Int)) ((it (8 * n) r : Nat) : Int) :=
  flotillaref04_zeros.fill _ _ _ (flotillaref04_zeros.main 63 r n 8 hr (by omega) hn) 32 0 rfl

/-! ### flotillaref04_Join: function 6 -/
def flotillaref04_Join.f (k : Nat) (a0 : Int) (a1 : Int) (a2 : Int) : Option (Int × Int) := if a2 < 0 then (some (0, 1)) else ((flotillaref04_zeros.f k (Go.bits .xor .u32 4294967295 a0) a2).bind fun t112 => ((flotillaref04_zeros.f k 4294967295 a2).bind fun t113 => (some (Go.bits .xor .u32 (Go.bits .xor .u32 (Go.bits .xor .u32 4294967295 t112) a1) (Go.bits .xor .u32 4294967295 t113), 0))))
theorem flotillaref04_Join.mono : ∀ a0 a1 a2 k, LeO (flotillaref04_Join.f k a0 a1 a2) (flotillaref04_Join.f (k + 1) a0 a1 a2) := by
  intro a0 a1 a2 k
  unfold flotillaref04_Join.f
  repeat' first
      | (with_reducible exact flotillaref04_zeros.mono _ _ _)
      | (with_reducible exact LeO.refl _)
      | (with_reducible exact LeO.none _)
      | (with_reducible refine LeO.ite ?_ ?_)
      | (with_reducible refine LeO.bind ?_ (fun _ => ?_))
      | exact flotillaref04_zeros.mono _ _ _
      | exact LeO.none _
      | refine LeO.ite ?_ ?_
      | refine LeO.bind ?_ (fun _ => ?_)
set_option maxHeartbeats 8000000 in
set_option maxRecDepth 100000 in
theorem flotillaref04_Join.calls (k : Nat) (a0 : Int) (a1 : Int) (a2 : Int) (r1 : Int) (r2 : Int) (w : World) (h : flotillaref04_Join.f k a0 a1 a2 = some (r1, r2)) :
    Calls Tryd.prog 6 #[.int .u32 a0, .int .u32 a1, .int .i64 a2] w fun e w' => e = .returned (.tuple #[.int .u32 r1, .int .i64 r2]) ∧ Below w.heap.size w w' := by
  have HB := Aside0.mk (Below.refl w.heap.size w)
  have H : (if a2 < 0 then (some (0, 1)) else ((flotillaref04_zeros.f k (Go.bits .xor .u32 4294967295 a0) a2).bind fun t112 => ((flotillaref04_zeros.f k 4294967295 a2).bind fun t113 => (some (Go.bits .xor .u32 (Go.bits .xor .u32 (Go.bits .xor .u32 4294967295 t112) a1) (Go.bits .xor .u32 4294967295 t113), 0))))) = some (r1, r2) := h
  clear h
  by_cases c4 : a2 < 0
  · rw [if_pos c4] at H
    have c4b0 : decide (a2 < 0) = true := decide_eq_true c4
    clear c4
    simp only [Option.some.injEq, Prod.mk.injEq] at H
    obtain ⟨rfl, rfl⟩ := H
    go_enter Tryd.func6, Tryd.ntmps6
    go_wp2
    go_ret2
    exact ⟨by first | rfl | (simp [errW_none, errW_some] <;> rfl) | (simp [*, errW_none, errW_some] <;> rfl), by repeat (first | (with_reducible first | exact HB.out | apply below_alloc | apply pw_below_drewN | apply below_drew1) | exact HB.out)⟩
  · rw [if_neg c4] at H
    have c4b0 : decide (a2 < 0) = false := decide_eq_false c4
    clear c4
    replace H := Option.bind_eq_some_iff.mp H
    obtain ⟨t112, A50, H⟩ := H
    replace H : ((flotillaref04_zeros.f k 4294967295 a2).bind fun t113 => (some (Go.bits .xor .u32 (Go.bits .xor .u32 (Go.bits .xor .u32 4294967295 t112) a1) (Go.bits .xor .u32 4294967295 t113), 0))) = some (r1, r2) := H
    have A5 := Aside0.mk A50
    clear A50
    replace H := Option.bind_eq_some_iff.mp H
    obtain ⟨t113, A60, H⟩ := H
    replace H : (some (Go.bits .xor .u32 (Go.bits .xor .u32 (Go.bits .xor .u32 4294967295 t112) a1) (Go.bits .xor .u32 4294967295 t113), 0)) = some (r1, r2) := H
    have A6 := Aside0.mk A60
    clear A60
    simp only [Option.some.injEq, Prod.mk.injEq] at H
    obtain ⟨rfl, rfl⟩ := H
    go_enter Tryd.func6, Tryd.ntmps6
    go_wp2_with (first | ((with_reducible refine gate_callee (f := 16) rfl ?_); refine goesL_ (some 13) rfl rfl Tryd.func16 (by kernel_rfl) rfl #[.int .u32 (Go.bits .xor .u32 4294967295 a0), .int .i64 a2] rfl (by (try simp only [List.map_toArray, List.map_cons, List.map_nil]); first | done | rfl | (simp only [List.length_drop, List.length_take]; rfl)) ?_; (with_reducible refine (flotillaref04_zeros.calls k (Go.bits .xor .u32 4294967295 a0) a2 t112 _ A5.out).mono ?_); rintro e w7 ⟨rfl, hb⟩; refine ⟨_, rfl, ?_⟩; have n0_ := Aside0.mk (below_step (by repeat (first | (with_reducible first | exact HB.out | apply below_alloc | apply pw_below_drewN | apply below_drew1) | exact HB.out)) hb); clear HB; have HB := n0_; clear n0_; (try clear hb); (try clear hb2); (try clear hk); (try clear hi)) | ((with_reducible refine gate_callee (f := 16) rfl ?_); refine goesL_ (some 18) rfl rfl Tryd.func16 (by kernel_rfl) rfl #[.int .u32 4294967295, .int .i64 a2] rfl (by (try simp only [List.map_toArray, List.map_cons, List.map_nil]); first | done | rfl | (simp only [List.length_drop, List.length_take]; rfl)) ?_; (with_reducible refine (flotillaref04_zeros.calls k 4294967295 a2 t113 _ A6.out).mono ?_); rintro e w8 ⟨rfl, hb⟩; refine ⟨_, rfl, ?_⟩; have n0_ := Aside0.mk (below_step (by repeat (first | (with_reducible first | exact HB.out | apply below_alloc | apply pw_below_drewN | apply below_drew1) | exact HB.out)) hb); clear HB; have HB := n0_; clear n0_; (try clear hb); (try clear hb2); (try clear hk); (try clear hi)))
    go_ret2
    exact ⟨by first | rfl | (simp [errW_none, errW_some] <;> rfl) | (simp [*, errW_none, errW_some] <;> rfl), by repeat (first | (with_reducible first | exact HB.out | apply below_alloc | apply pw_below_drewN | apply below_drew1) | exact HB.out)⟩
open Go.Proofs.YtckihppdjoianaaDoor.Crc in
theorem flotillaref04_Join.ev (a b n : Nat) (ha : a < 2 ^ 32) (hb : b < 2 ^ 32) (hn : n < 9223372036854775808) : Ev (fun k => flotillaref04_Join.f k (a : Int) (b : Int) (n : Int)) (((it (8 * n) a ^^^ b : Nat) : Int), 0) := by
  unfold flotillaref04_Join.f
  refine Ev.neg (by omega) ?_
  rw [not_go ha]
  refine Ev.bind (flotillaref04_zeros.ev _ n (not_lt ha) hn) ?_
  refine Ev.bind (flotillaref04_zeros.ev ones n (by decide) hn) ?_
  have h1 := it_lt (8 * n) (not_lt ha)
  have h2 : it (8 * n) ones < 2 ^ 32 := it_lt (8 * n) (by decide)
  have h3 := not_lt h1
  have h4 := not_lt h2
  rw [not_go h1, not_go h2, bits_xor h3 hb, bits_xor (Nat.xor_lt_two_pow h3 hb) h4]
  refine Ev.cast ?_ (Ev.now _)
  congr 2
  rw [it_xor]
  apply Nat.eq_of_testBit_eq
  intro i
  simp only [Nat.testBit_xor]
  generalize ones.testBit i = p
  generalize (it (8 * n) ones).testBit i = q
  generalize (it (8 * n) a).testBit i = s
  generalize b.testBit i = t
  cases p <;> cases q <;> cases s <;> cases t <;> rfl
theorem flotillaref04_Join.no (k : Nat) (a b n : Int) (hn : n < 0) : flotillaref04_Join.f k a b n = some (0, 1) := by
  unfold flotillaref04_Join.f
  rw [if_pos hn]

/-! ### flotillakit_Plain: function 7 -/
-- GLOB
def flotillakit_Plain.f (a0 : Option Int) (a1 : Int) : Option Bool := some (Go.Proofs.YtckihppdjoianaaDoor.Pl.plainE (a0.map fun c => (c, none)) a1)
theorem flotillakit_Plain.calls (a0 : Option Int) (a1 : Int) (r : Bool) (w : World) (hG : Go.Proofs.YtckihppdjoianaaDoor.As.Glob w) (h : flotillakit_Plain.f a0 a1 = some r) :
    Calls Tryd.prog 7 #[errW a0, .int .i64 a1] w fun e w' => e = .returned (.bool r) ∧ Below w.heap.size w w' := by
  obtain rfl := Option.some.inj h
  have e1 : errW a0 = Go.Proofs.YtckihppdjoianaaDoor.Pl.errV (a0.map fun c => (c, none)) := by cases a0 <;> rfl
  rw [e1]
  exact Go.Proofs.YtckihppdjoianaaDoor.Pl.plain_calls _ a1 w hG

/-! ### flotillalaw04_SumJoined: function 3 -/
-- GLOB
-- NEEDS flotilla/sum.Join flotilla/flotillaref04.Join
/-- What the law's parts say, together. -/
def flotillalaw04_SumJoined.f (k : Nat) (a0 a1 a2 : Int) : Option Bool :=
  (sum_Join.f a0 a1 a2).bind fun x => (flotillaref04_Join.f k a0 a1 a2).bind fun y =>
    if x.1 = y.1 ∧ Go.Proofs.YtckihppdjoianaaDoor.Pl.plainE (x.2.map fun c => (c, none)) y.2 = true then some true else none
theorem flotillalaw04_SumJoined.mono : ∀ a0 a1 a2 k, LeO (flotillalaw04_SumJoined.f k a0 a1 a2) (flotillalaw04_SumJoined.f (k + 1) a0 a1 a2) := by
  intro a0 a1 a2 k
  unfold flotillalaw04_SumJoined.f
  repeat' first
      | (with_reducible exact flotillaref04_Join.mono _ _ _ _)
      | (with_reducible exact LeO.refl _)
      | (with_reducible exact LeO.none _)
      | (with_reducible refine LeO.ite ?_ ?_)
      | (with_reducible refine LeO.bind ?_ (fun _ => ?_))
      | exact flotillaref04_Join.mono _ _ _ _
      | exact LeO.none _
      | refine LeO.ite ?_ ?_
      | refine LeO.bind ?_ (fun _ => ?_)
set_option maxRecDepth 100000 in
theorem flotillalaw04_SumJoined.calls (k : Nat) (a0 a1 a2 : Int) (r : Bool) (w : World) (hG : Go.Proofs.YtckihppdjoianaaDoor.As.Glob w) (h : flotillalaw04_SumJoined.f k a0 a1 a2 = some r) :
    Calls Tryd.prog 3 #[.int .u32 a0, .int .u32 a1, .int .i64 a2] w fun e w' => e = .returned (.bool r) ∧ Below w.heap.size w w' := by
  unfold flotillalaw04_SumJoined.f at h
  obtain ⟨⟨x, xe⟩, hx, h⟩ := Option.bind_eq_some_iff.mp h
  obtain ⟨⟨y, ye⟩, hy, h⟩ := Option.bind_eq_some_iff.mp h
  by_cases hc : x = y ∧ Go.Proofs.YtckihppdjoianaaDoor.Pl.plainE (xe.map fun c => (c, none)) ye = true
  · rw [if_pos hc] at h
    obtain rfl := Option.some.inj h
    obtain ⟨rfl, hp⟩ := hc
    have HP := Lib.hid hp
    have HG := Lib.hid hG
    clear hp hG
    have e1 : errW xe = Go.Proofs.YtckihppdjoianaaDoor.Pl.errV (xe.map fun c => (c, none)) := by cases xe <;> rfl
    have E1 := Lib.hid e1
    clear e1
    go_enter Tryd.func3, Tryd.ntmps3
    go_wp2_with fail
    refine (sum_Join.calls a0 a1 a2 x xe _ hx).mono ?_
    rintro e w1 ⟨rfl, b1⟩
    rw [E1.out]
    go_wp2_with fail
    refine (flotillaref04_Join.calls k a0 a1 a2 x ye _ hy).mono ?_
    rintro e w2 ⟨rfl, b2⟩
    have b3 := below_step b1 b2
    clear b1 b2
    go_wp2_with fail
    refine (Go.Proofs.YtckihppdjoianaaDoor.Pl.plain_calls _ ye _ (HG.out.below b3)).mono ?_
    rintro e w3 ⟨rfl, b4⟩
    rw [HP.out]
    go_wp2_with fail
    go_ret
    exact ⟨by simp, below_step b3 b4⟩
  · rw [if_neg hc] at h
    cases h

end Go.Proofs.YtckihppdjoianaaDoor.Print
