/- The functions below as plain Lean functions, each with the proof that the calls come to it; written by a program over the kit's print. -/
import Derived.Test.YtalkodandfjkmaaPrintx0
namespace Go.Proofs.Ytalkodandfjkmaa.Print
open Go.RowKit Go.Proofs.YtalkodandfjkmaaW.PrintWords Go.Proofs.YtalkodandfjkmaaW.PrintLast Go.Proofs.YtalkodandfjkmaaW.PrintMore
attribute [local go_sem] max2_int min2_int max_two min_two max_three min_three max_four min_four   -- for this text's walks alone
set_option linter.unusedVariables false
set_option linter.unusedSimpArgs false

/-! ### flotillakit_markBytes: function 34 -/
def flotillakit_markBytes.f (a0 : Int) (a1 : Int) : Option (Int) := some ((wrap64 ((wrap64 (37 * (wrap64 (a0 + 1)))) + a1)) % 256)
set_option maxHeartbeats 8000000 in
set_option maxRecDepth 100000 in
theorem flotillakit_markBytes.calls (a0 : Int) (a1 : Int) (r : Int) (w : World) (h : flotillakit_markBytes.f a0 a1 = some r) :
    Calls Try.prog 34 #[.int .i64 a0, .int .i64 a1] w fun e w' => e = .returned (.int .u8 r) ∧ Drawn0 w w' := by
  have H : (some ((wrap64 ((wrap64 (37 * (wrap64 (a0 + 1)))) + a1)) % 256)) = some r := h
  clear h
  obtain rfl := Option.some.inj H
  go_enter Try.func34, Try.ntmps34
  go_wp2
  go_ret
  exact ⟨by first | rfl | (simp; done) | (simp [*]; done), by repeat (first | exact Drawn0.refl _ | apply Drawn0.step)⟩
def flotillakit_markBytes.v (a0 a1 : Int) : Int := (wrap64 ((wrap64 (37 * (wrap64 (a0 + 1)))) + a1)) % 256
theorem flotillakit_markBytes.is (a0 a1 : Int) : flotillakit_markBytes.f a0 a1 = some (flotillakit_markBytes.v a0 a1) := rfl
theorem flotillakit_markBytes.one (a : Nat) (h : a + 1 < 9223372036854775808) : wrap64 ((a : Int) + 1) = ((a + 1 : Nat) : Int) := by rw [IntWalk.wrap64_in _ ⟨by omega, by omega⟩]; rfl
theorem flotillakit_markBytes.up (d : Nat) (h : d + 1 ≤ 16) : wrap64 (16 - ((d + 1 : Nat) : Int) + 1) = 16 - (d : Int) := by rw [IntWalk.wrap64_in _ ⟨by omega, by omega⟩]; omega
theorem flotillakit_markBytes.off (n j : Nat) (h : n + j < 9223372036854775808) : wrap64 (((n + j : Nat) : Int) - (n : Int)) = (j : Int) := by rw [IntWalk.wrap64_in _ ⟨by omega, by omega⟩]; omega
attribute [irreducible] flotillakit_markBytes.v

/-! ### flotillakit_FullBytes: function 23 -/
mutual
def flotillakit_FullBytes.l0 : Nat → List Int → List Int → Int → Option (List Int)
  | 0, _, _, _ => none
  | k + 1, x0, x3, x4 => if x4 < (x0.length : Int) then (if 0 ≤ x4 then (if x3.length < 140737488355328 then (flotillakit_FullBytes.l0 k x0 (x3 ++ [rd x0 x4]) (wrap64 (x4 + 1))) else (none)) else (none)) else (flotillakit_FullBytes.l1 k x3 0)
def flotillakit_FullBytes.l1 : Nat → List Int → Int → Option (List Int)
  | 0, _, _ => none
  | k + 1, x3, x5 => if x5 < 16 then ((flotillakit_markBytes.f 90 x5).bind fun t105 => (if x3.length < 140737488355328 then (flotillakit_FullBytes.l1 k (x3 ++ [t105]) (wrap64 (x5 + 1))) else (none))) else (some x3)
end
def flotillakit_FullBytes.f (k : Nat) (l0 : List Int) : Option (List Int) := flotillakit_FullBytes.l0 k l0 ([] : List Int) 0
theorem flotillakit_FullBytes.mono_l : ∀ k, (∀ y0 y1 y2, LeO (flotillakit_FullBytes.l0 k y0 y1 y2) (flotillakit_FullBytes.l0 (k + 1) y0 y1 y2)) ∧ (∀ y0 y1, LeO (flotillakit_FullBytes.l1 k y0 y1) (flotillakit_FullBytes.l1 (k + 1) y0 y1))
  | 0 => ⟨fun _ _ _ r h => by simp [flotillakit_FullBytes.l0] at h, fun _ _ r h => by simp [flotillakit_FullBytes.l1] at h⟩
  | k + 1 => by
    obtain ⟨ih0, ih1⟩ := flotillakit_FullBytes.mono_l k
    refine ⟨?_, ?_⟩
    · intro y0 y1 y2
      unfold flotillakit_FullBytes.l0
      repeat' first
      | (with_reducible exact ih0 _ _ _)
      | (with_reducible exact ih1 _ _)
      | (with_reducible exact LeO.refl _)
      | (with_reducible exact LeO.none _)
      | (with_reducible refine LeO.ite ?_ ?_)
      | (with_reducible refine LeO.bind ?_ (fun _ => ?_))
      | exact ih0 _ _ _
      | exact ih1 _ _
      | exact LeO.none _
      | refine LeO.ite ?_ ?_
      | refine LeO.bind ?_ (fun _ => ?_)
    · intro y0 y1
      unfold flotillakit_FullBytes.l1
      repeat' first
      | (with_reducible exact ih0 _ _ _)
      | (with_reducible exact ih1 _ _)
      | (with_reducible exact LeO.refl _)
      | (with_reducible exact LeO.none _)
      | (with_reducible refine LeO.ite ?_ ?_)
      | (with_reducible refine LeO.bind ?_ (fun _ => ?_))
      | exact ih0 _ _ _
      | exact ih1 _ _
      | exact LeO.none _
      | refine LeO.ite ?_ ?_
      | refine LeO.bind ?_ (fun _ => ?_)
theorem flotillakit_FullBytes.mono : ∀ a0 k, LeO (flotillakit_FullBytes.f k a0) (flotillakit_FullBytes.f (k + 1) a0) := by
  intro a0 k
  obtain ⟨ih0, ih1⟩ := flotillakit_FullBytes.mono_l k
  unfold flotillakit_FullBytes.f
  repeat' first
      | (with_reducible exact ih0 _ _ _)
      | (with_reducible exact ih1 _ _)
      | (with_reducible exact LeO.refl _)
      | (with_reducible exact LeO.none _)
      | (with_reducible refine LeO.ite ?_ ?_)
      | (with_reducible refine LeO.bind ?_ (fun _ => ?_))
      | exact ih0 _ _ _
      | exact ih1 _ _
      | exact LeO.none _
      | refine LeO.ite ?_ ?_
      | refine LeO.bind ?_ (fun _ => ?_)
set_option maxHeartbeats 8000000 in
set_option maxRecDepth 100000 in
theorem flotillakit_FullBytes.calls (k : Nat) (A0 : Option Addr) (c0 : Nat) (l0 : List Int) (r : List Int) (w : World) (hr0 : Kd.C (Kd.int .u8) w A0 l0.length l0) (hc0 : l0.length ≤ c0) (h : flotillakit_FullBytes.f k l0 = some r) :
    Calls Try.prog 23 #[.slice A0 l0.length c0] w fun e w' => ∃ v0_ : Value, e = .returned (v0_) ∧ Kd.R (Kd.int .u8) 5 w' w.heap.size (fun _ => True) v0_ r ∧ Below w.heap.size w w' := by
  have HR0 := Aside0.mk hr0
  have HC0 := Aside0.mk hc0
  clear hr0 hc0
  have HB := Aside0.mk (Below.refl w.heap.size w)
  have H : (flotillakit_FullBytes.l0 k l0 ([] : List Int) 0) = some r := h
  clear h
  have H' := Aside0.mk H
  clear H
  go_enter Try.func23, Try.ntmps23
  go_wp2
  go_loopg [3, 4] k (fun kq v3 v4 w' => ∃ (x3_1 : List Int) (x4_1 : Int), v4 = .int .i64 x4_1 ∧ Aside0 (flotillakit_FullBytes.l0 kq l0 x3_1 x4_1 = some r) ∧ Aside0 (kq ≤ k) ∧ Aside0 (Kd.R (Kd.int .u8) 5 w' w.heap.size (fun _ => True) v3 x3_1) ∧ Aside0 (Below w.heap.size w w'))
  case atStart => exact ⟨(([] : List Int)), (0), (by first | rfl | (simp; done) | (simp [*]; done)), H', ⟨Nat.le_refl _⟩, ⟨by first | exact Kd.R_nil _ _ _ _ _ | exact Kd.N_nil _ _ _ _ _ | exact Kd.V_nil _ _ _ _ _ | exact Kd.Q_nil _ _ _ _ _ | exact Kd.S_nil _ _ _ _ _⟩, ⟨by repeat (first | (with_reducible first | exact HB.out | apply below_alloc | apply pw_below_drewN | apply below_drew1) | exact HB.out)⟩⟩
  case round =>
    clear H'
    obtain ⟨x3_1, x4_1, rfl, HA, HK1, HO_3, HB⟩ := hrel
    cases gk with
    | zero => exact absurd HA.out (by simp [flotillakit_FullBytes.l0])
    | succ k1 =>
      have H := HA.out
      clear HA
      simp only [flotillakit_FullBytes.l0] at H
      by_cases c2 : x4_1 < (l0.length : Int)
      · rw [if_pos c2] at H
        have c2b0 : decide (x4_1 < (l0.length : Int)) = true := decide_eq_true c2
        clear c2
        by_cases c3 : 0 ≤ x4_1
        · rw [if_pos c3] at H
          have c3b0 : decide (0 ≤ x4_1) = true := decide_eq_true c3
          clear c3
          by_cases c4 : x3_1.length < 140737488355328
          · rw [if_pos c4] at H
            have LMc4 := Aside0.mk c4
            clear c4
            obtain ⟨y102, hy102⟩ : ∃ y_ : List Int, y_ = (x3_1 ++ [rd l0 x4_1]) := ⟨_, rfl⟩
            replace H : (flotillakit_FullBytes.l0 k1 l0 y102 (wrap64 (x4_1 + 1))) = some r := by first | (rw [hy102]; with_reducible exact H) | (have H2_ := (Option.bind_some _ _).symm.trans H; rw [hy102]; with_reducible exact H2_) | (have H2_ := (Option.bind_some _ _).symm.trans H; with_reducible exact H2_) | with_reducible exact H | (rw [hy102]; exact H) | exact H
            have Ny102 := Aside0.mk hy102
            clear hy102
            have H' := Aside0.mk H
            clear H
            have p101 : 0 ≤ (x4_1 : Int) := of_decide_eq_true (by first | (with_reducible assumption) | assumption)
            have q101 : x4_1 < (l0.length : Int) := of_decide_eq_true (by first | (with_reducible assumption) | assumption)
            obtain ⟨ad101, e101, hx101_0⟩ := Kd.at_int HR0.out x4_1 p101 q101
            cases e101
            replace hx101_0 := (HB.out.cell (World.block_lt_of_cell? w _ hx101_0)).trans hx101_0
            replace p101 := eq_true p101
            replace q101 := eq_true q101
            go_wp2_with (first | ((with_reducible refine gate_builtin (b := .append) (xs := #[.tmp 12, .tmp 17]) rfl ?_); at_builtin; refine Kd.R_append (Kd.int .u8) (w0 := w) w.heap.size rfl (.tmp 12) (.tmp 17) 22 5 (.int .u8 0) 1 rfl Try.underlying22 info5 rfl (by decide) (by omega) u3 x3_1 (rd l0 x4_1) [.int .u8 (rd l0 x4_1)] (fun _ => True) (fun _ => False) rfl rfl ?aP (fun _ hk => hk.elim) ?aF ?aO ?aB ?aS ?aL ?_; (case aP => exact rfl); (case aB => exact (by repeat (first | (with_reducible first | exact HB.out | apply below_alloc | apply pw_below_drewN | apply below_drew1) | exact HB.out))); (case aF => exact (fun _ _ => trivial)); (case aO => exact (by (with_reducible repeat (first | apply Kd.R_alloc | apply Kd.R_drewN | apply Kd.R_drew)); exact HO_3.out)); (case aS => exact (below_size (by repeat (first | (with_reducible first | exact HB.out | apply below_alloc | apply pw_below_drewN | apply below_drew1) | exact HB.out)))); (case aL => have := LMc4.out; omega); intro v103 w5 ho hb hg hat; rw [← Ny102.out] at ho; have n0_ := Aside0.mk (hb); have n1_ := Aside0.mk (ho); clear HB; clear HO_3; have HB := n0_; have HO104 := n1_; clear n0_ n1_; clear ho hb hg hat))
            go_roundg k1
            case measure => have := HK1.out; omega
            case rel => exact ⟨(y102), (wrap64 (x4_1 + 1)), (by first | rfl | (simp; done) | (simp [*]; done)), H', ⟨by have := HK1.out; omega⟩, ⟨by (with_reducible repeat (first | apply Kd.R_alloc | apply Kd.R_drewN | apply Kd.R_drew)); exact HO104.out⟩, ⟨by repeat (first | (with_reducible first | exact HB.out | apply below_alloc | apply pw_below_drewN | apply below_drew1) | exact HB.out)⟩⟩
          · rw [if_neg c4] at H
            exact absurd H (by simp)
        · rw [if_neg c3] at H
          exact absurd H (by simp)
      · rw [if_neg c2] at H
        have c2b0 : decide (x4_1 < (l0.length : Int)) = false := decide_eq_false c2
        clear c2
        have H' := Aside0.mk H
        clear H
        go_wp2
        go_loopg [3, 5] k1 (fun kq v3 v5 w' => ∃ (x3_2 : List Int) (x5_2 : Int), v5 = .int .i64 x5_2 ∧ Aside0 (flotillakit_FullBytes.l1 kq x3_2 x5_2 = some r) ∧ Aside0 (kq ≤ k1) ∧ Aside0 (Kd.R (Kd.int .u8) 5 w' w.heap.size (fun _ => True) v3 x3_2) ∧ Aside0 (Below w.heap.size w w'))
        case atStart => exact ⟨(x3_1), (0), (by first | rfl | (simp; done) | (simp [*]; done)), H', ⟨Nat.le_refl _⟩, ⟨by (with_reducible repeat (first | apply Kd.R_alloc | apply Kd.R_drewN | apply Kd.R_drew)); exact HO_3.out⟩, ⟨by repeat (first | (with_reducible first | exact HB.out | apply below_alloc | apply pw_below_drewN | apply below_drew1) | exact HB.out)⟩⟩
        case round =>
          clear H'
          try clear p1
          try clear q1
          try clear hx1
          try clear c2
          try clear c2b0
          try clear p2
          try clear c3
          try clear c3b0
          try clear c4
          try clear hx101_0
          try clear p101
          try clear q101
          obtain ⟨x3_2, x5_2, rfl, HA, HK2, HO_3, HB⟩ := hrel
          cases gk with
          | zero => exact absurd HA.out (by simp [flotillakit_FullBytes.l1])
          | succ k2 =>
            have H := HA.out
            clear HA
            simp only [flotillakit_FullBytes.l1] at H
            by_cases c6 : x5_2 < 16
            · rw [if_pos c6] at H
              have c6b0 : decide (x5_2 < 16) = true := decide_eq_true c6
              clear c6
              replace H := Option.bind_eq_some_iff.mp H
              obtain ⟨t105, A70, H⟩ := H
              replace H : (if x3_2.length < 140737488355328 then (flotillakit_FullBytes.l1 k2 (x3_2 ++ [t105]) (wrap64 (x5_2 + 1))) else (none)) = some r := H
              have A7 := Aside0.mk A70
              clear A70
              by_cases c8 : x3_2.length < 140737488355328
              · rw [if_pos c8] at H
                have LMc8 := Aside0.mk c8
                clear c8
                obtain ⟨y106, hy106⟩ : ∃ y_ : List Int, y_ = (x3_2 ++ [t105]) := ⟨_, rfl⟩
                replace H : (flotillakit_FullBytes.l1 k2 y106 (wrap64 (x5_2 + 1))) = some r := by first | (rw [hy106]; with_reducible exact H) | (have H2_ := (Option.bind_some _ _).symm.trans H; rw [hy106]; with_reducible exact H2_) | (have H2_ := (Option.bind_some _ _).symm.trans H; with_reducible exact H2_) | with_reducible exact H | (rw [hy106]; exact H) | exact H
                have Ny106 := Aside0.mk hy106
                clear hy106
                have H' := Aside0.mk H
                clear H
                go_wp2_with (first | ((with_reducible refine gate_callee (f := 34) rfl ?_); refine goesL_ (some 25) rfl rfl Try.func34 (by kernel_rfl) rfl #[.int .i64 90, .int .i64 x5_2] rfl (by (try simp only [List.map_toArray, List.map_cons, List.map_nil]); first | done | rfl | (simp only [List.length_drop, List.length_take]; rfl)) ?_; (with_reducible refine (flotillakit_markBytes.calls 90 x5_2 t105 _ A7.out).mono ?_); rintro e w' ⟨rfl, ⟨nd, rfl⟩⟩; refine ⟨_, rfl, ?_⟩) | ((with_reducible refine gate_builtin (b := .append) (xs := #[.tmp 23, .tmp 26]) rfl ?_); at_builtin; refine Kd.R_append (Kd.int .u8) (w0 := w) w.heap.size rfl (.tmp 23) (.tmp 26) 22 5 (.int .u8 0) 1 rfl Try.underlying22 info5 rfl (by decide) (by omega) u3 x3_2 t105 [.int .u8 t105] (fun _ => True) (fun _ => False) rfl rfl ?aP (fun _ hk => hk.elim) ?aF ?aO ?aB ?aS ?aL ?_; (case aP => exact rfl); (case aB => exact (by repeat (first | (with_reducible first | exact HB.out | apply below_alloc | apply pw_below_drewN | apply below_drew1) | exact HB.out))); (case aF => exact (fun _ _ => trivial)); (case aO => exact (by (with_reducible repeat (first | apply Kd.R_alloc | apply Kd.R_drewN | apply Kd.R_drew)); exact HO_3.out)); (case aS => exact (below_size (by repeat (first | (with_reducible first | exact HB.out | apply below_alloc | apply pw_below_drewN | apply below_drew1) | exact HB.out)))); (case aL => have := LMc8.out; omega); intro v107 w9 ho hb hg hat; rw [← Ny106.out] at ho; have n0_ := Aside0.mk (hb); have n1_ := Aside0.mk (ho); clear HB; clear HO_3; have HB := n0_; have HO108 := n1_; clear n0_ n1_; clear ho hb hg hat))
                go_roundg k2
                case measure => have := HK1.out; have := HK2.out; omega
                case rel => exact ⟨(y106), (wrap64 (x5_2 + 1)), (by first | rfl | (simp; done) | (simp [*]; done)), H', ⟨by have := HK1.out; have := HK2.out; omega⟩, ⟨by (with_reducible repeat (first | apply Kd.R_alloc | apply Kd.R_drewN | apply Kd.R_drew)); exact HO108.out⟩, ⟨by repeat (first | (with_reducible first | exact HB.out | apply below_alloc | apply pw_below_drewN | apply below_drew1) | exact HB.out)⟩⟩
              · rw [if_neg c8] at H
                exact absurd H (by simp)
            · rw [if_neg c6] at H
              have c6b0 : decide (x5_2 < 16) = false := decide_eq_false c6
              clear c6
              obtain rfl := Option.some.inj H
              go_wp2
              go_ret
              exact ⟨_, by first | rfl | (simp [errW_none, errW_some] <;> rfl) | (simp [*, errW_none, errW_some] <;> rfl), by (with_reducible repeat (first | apply Kd.R_alloc | apply Kd.R_drewN | apply Kd.R_drew)); exact HO_3.out, by repeat (first | (with_reducible first | exact HB.out | apply below_alloc | apply pw_below_drewN | apply below_drew1) | exact HB.out)⟩
/-- The marks behind a lent list: the last d of them. -/
def flotillakit_FullBytes.marks : Nat → List Int
  | 0 => []
  | d + 1 => flotillakit_markBytes.v 90 (16 - ((d + 1 : Nat) : Int)) :: flotillakit_FullBytes.marks d
theorem flotillakit_FullBytes.marks_succ (d : Nat) : flotillakit_FullBytes.marks (d + 1) = flotillakit_markBytes.v 90 (16 - ((d + 1 : Nat) : Int)) :: flotillakit_FullBytes.marks d := rfl
theorem flotillakit_FullBytes.marks_len (d : Nat) : (flotillakit_FullBytes.marks d).length = d := by
  induction d with
  | zero => rfl
  | succ d ih => rw [flotillakit_FullBytes.marks_succ, List.length_cons, ih]
theorem flotillakit_FullBytes.marks_length : (flotillakit_FullBytes.marks 16).length = 16 := flotillakit_FullBytes.marks_len 16
theorem flotillakit_FullBytes.marks_at (d : Nat) : ∀ i, i < d → d ≤ 16 → (flotillakit_FullBytes.marks d)[i]? = some (flotillakit_markBytes.v 90 (16 - (d : Int) + (i : Int))) := by
  induction d with
  | zero => intro i h; omega
  | succ d ih =>
    intro i h hd
    rw [flotillakit_FullBytes.marks_succ]
    cases i with
    | zero => rw [List.getElem?_cons_zero, show (16 - ((d + 1 : Nat) : Int) + ((0 : Nat) : Int)) = 16 - ((d + 1 : Nat) : Int) by omega]
    | succ i => rw [List.getElem?_cons_succ, ih i (by omega) (by omega), show (16 - ((d + 1 : Nat) : Int) + ((i + 1 : Nat) : Int)) = 16 - (d : Int) + (i : Int) by omega]
theorem flotillakit_FullBytes.marks_get (i : Nat) (hi : i < 16) : rd (flotillakit_FullBytes.marks 16) (i : Int) = flotillakit_markBytes.v 90 (i : Int) := by
  unfold rd
  rw [Int.toNat_natCast, List.getD_eq_getElem?_getD, flotillakit_FullBytes.marks_at 16 i hi (Nat.le_refl _), Option.getD_some, show (16 - ((16 : Nat) : Int) + (i : Int)) = (i : Int) by omega]
theorem flotillakit_FullBytes.loop1 (m : Nat) : ∀ (d : Nat) (x : List Int), d ≤ 16 → x.length + d < 140737488355328 → flotillakit_FullBytes.l1 (m + 1 + d) x (16 - (d : Int)) = some (x ++ flotillakit_FullBytes.marks d) := by
  intro d
  induction d with
  | zero =>
    intro x _ _
    simp only [flotillakit_FullBytes.l1]
    rw [if_neg (by omega)]
    simp [flotillakit_FullBytes.marks]
  | succ d ih =>
    intro x h1 h2
    show flotillakit_FullBytes.l1 ((m + 1 + d) + 1) x _ = _
    rw [flotillakit_FullBytes.l1, if_pos (by omega), flotillakit_markBytes.is, Option.bind_some, if_pos (by omega), flotillakit_markBytes.up d h1, ih _ (by omega) (by rw [List.length_append, List.length_singleton]; omega), List.append_assoc,
      flotillakit_FullBytes.marks_succ d, List.singleton_append]
theorem flotillakit_FullBytes.loop0 (l : List Int) (hl : l.length + 16 < 140737488355328) (m : Nat) : ∀ (d i : Nat), i + d = l.length → flotillakit_FullBytes.l0 (m + 18 + d) l (l.take i) (i : Int) = some (l ++ flotillakit_FullBytes.marks 16) := by
  intro d
  induction d with
  | zero =>
    intro i hi
    show flotillakit_FullBytes.l0 ((m + 17) + 1) _ _ _ = _
    rw [flotillakit_FullBytes.l0, if_neg (by omega), List.take_of_length_le (by omega)]
    exact flotillakit_FullBytes.loop1 m 16 l (Nat.le_refl _) (by omega)
  | succ d ih =>
    intro i hi
    show flotillakit_FullBytes.l0 ((m + 18 + d) + 1) _ _ _ = _
    have e2 : l.take i ++ [rd l (i : Int)] = l.take (i + 1) := by
      rw [List.take_succ_eq_append_getElem (by omega)]
      simp [rd, List.getElem?_eq_getElem (show i < l.length by omega)]
    rw [flotillakit_FullBytes.l0, if_pos (by omega), if_pos (by omega), if_pos (by rw [List.length_take]; omega), e2, flotillakit_markBytes.one i (by omega)]
    exact ih (i + 1) (by omega)
theorem flotillakit_FullBytes.spec (l : List Int) (hl : l.length + 16 < 140737488355328) (k : Nat) (hk : l.length + 18 ≤ k) : flotillakit_FullBytes.f k l = some (l ++ flotillakit_FullBytes.marks 16) := by
  have := flotillakit_FullBytes.loop0 l hl (k - 18 - l.length) l.length 0 (by omega)
  rw [show k - 18 - l.length + 18 + l.length = k by omega] at this
  exact this

/-! ### flotillakit_LentBytes: function 8 -/
/-- The list that is lent, and its spare room behind it. -/
theorem flotillakit_LentBytes.lent (k : Nat) (A0 : Option Addr) (c0 : Nat) (l0 full : List Int) (w : World) (hr0 : Kd.C (Kd.int .u8) w A0 l0.length l0) (hc0 : l0.length ≤ c0) (hn : full.length = l0.length + 16) (h : flotillakit_FullBytes.f k l0 = some full) :
    Calls Try.prog 8 #[.slice A0 l0.length c0] w fun e w' => ∃ (ad : Addr) (c : Nat), e = .returned (.slice (some ad) l0.length c) ∧ full.length ≤ c ∧ Kd.C (Kd.int .u8) w' (some ad) full.length full ∧ w.heap.size ≤ ad.block ∧ Below w.heap.size w w' := by
  have HN := Lib.hid hn
  go_enter Try.func8, Try.ntmps8
  go_wp2_with fail
  refine (flotillakit_FullBytes.calls k _ _ l0 full _ hr0 hc0 h).mono ?_
  rintro e w' ⟨v, rfl, ho, hb⟩
  obtain ⟨Ao, co, rfl⟩ := Kd.R_slice ho
  have hrd := Kd.R_reads' ho
  have hlen := HN.out
  have hco := hrd.2.1
  obtain ⟨ad, x1, _⟩ := Kd.at_int hrd.2.2 0 (by omega) (by omega)
  subst x1
  have hbk : w.heap.size ≤ ad.block := by
    obtain ⟨inner, hi⟩ := Kd.R_own ho
    exact own_base hi ad.block (by simp [Value.ownBlock])
  have hle : l0.length ≤ co := by omega
  clear hn
  go_wp2_with fail
  go_ret
  exact ⟨ad, co, rfl, hco, hrd.2.2, hbk, hb⟩

/-! ### digest_Of: function 9 -/
def digest_Of.f (l0 : List Int) : Option Int := some (Go.Proofs.Ytalkodandfjkmaa.Dig.fnvL 14695981039346656037 l0)
theorem digest_Of.calls (A0 : Option Addr) (c0 : Nat) (l0 : List Int) (r : Int) (w : World) (hr0 : Kd.C (Kd.int .u8) w A0 l0.length l0) (hc0 : l0.length ≤ c0) (h : digest_Of.f l0 = some r) :
    Calls Try.prog 9 #[.slice A0 l0.length c0] w fun e w' => e = .returned (.int .u64 r) ∧ Below w.heap.size w w' := by
  obtain rfl := Option.some.inj h
  exact Go.Proofs.Ytalkodandfjkmaa.Dig.of_calls A0 c0 l0 w hr0

/-! ### flotillaref05_More: function 25 -/
def flotillaref05_More.l0 : Nat → Int → List Int → Int → Option (Int)
  | 0, _, _, _ => none
  | k + 1, x0, x1, x5 => if x5 < (x1.length : Int) then (if 0 ≤ x5 then (flotillaref05_More.l0 k (IntKind.u64.wrap ((Go.bits .xor .u64 x0 (IntKind.u64.wrap (rd x1 x5))) * 1099511628211)) x1 (wrap64 (x5 + 1))) else (none)) else (some x0)
def flotillaref05_More.f (k : Nat) (a0 : Int) (l1 : List Int) : Option (Int) := flotillaref05_More.l0 k a0 l1 0
theorem flotillaref05_More.mono_l : ∀ k, (∀ y0 y1 y2, LeO (flotillaref05_More.l0 k y0 y1 y2) (flotillaref05_More.l0 (k + 1) y0 y1 y2))
  | 0 => fun _ _ _ r h => by simp [flotillaref05_More.l0] at h
  | k + 1 => by
    have ih0 := flotillaref05_More.mono_l k
    · intro y0 y1 y2
      unfold flotillaref05_More.l0
      repeat' first
      | (with_reducible exact ih0 _ _ _)
      | (with_reducible exact LeO.refl _)
      | (with_reducible exact LeO.none _)
      | (with_reducible refine LeO.ite ?_ ?_)
      | (with_reducible refine LeO.bind ?_ (fun _ => ?_))
      | exact ih0 _ _ _
      | exact LeO.none _
      | refine LeO.ite ?_ ?_
      | refine LeO.bind ?_ (fun _ => ?_)
theorem flotillaref05_More.mono : ∀ a0 a1 k, LeO (flotillaref05_More.f k a0 a1) (flotillaref05_More.f (k + 1) a0 a1) := by
  intro a0 a1 k
  have ih0 := flotillaref05_More.mono_l k
  unfold flotillaref05_More.f
  repeat' first
      | (with_reducible exact ih0 _ _ _)
      | (with_reducible exact LeO.refl _)
      | (with_reducible exact LeO.none _)
      | (with_reducible refine LeO.ite ?_ ?_)
      | (with_reducible refine LeO.bind ?_ (fun _ => ?_))
      | exact ih0 _ _ _
      | exact LeO.none _
      | refine LeO.ite ?_ ?_
      | refine LeO.bind ?_ (fun _ => ?_)
set_option maxHeartbeats 8000000 in
set_option maxRecDepth 100000 in
theorem flotillaref05_More.calls (k : Nat) (a0 : Int) (A1 : Option Addr) (c1 : Nat) (l1 : List Int) (r : Int) (w : World) (hr1 : Kd.C (Kd.int .u8) w A1 l1.length l1) (hc1 : l1.length ≤ c1) (h : flotillaref05_More.f k a0 l1 = some r) :
    Calls Try.prog 25 #[.int .u64 a0, .slice A1 l1.length c1] w fun e w' => e = .returned (.int .u64 r) ∧ Drawn0 w w' := by
  have HR1 := Aside0.mk hr1
  have HC1 := Aside0.mk hc1
  clear hr1 hc1
  have H : (flotillaref05_More.l0 k a0 l1 0) = some r := h
  clear h
  have H' := Aside0.mk H
  clear H
  go_enter Try.func25, Try.ntmps25
  go_wp2
  go_loopg [0, 5] k (fun kq v0 v5 w' => ∃ (x0_1 : Int) (x5_1 : Int), v0 = .int .u64 x0_1 ∧ v5 = .int .i64 x5_1 ∧ Aside0 (flotillaref05_More.l0 kq x0_1 l1 x5_1 = some r) ∧ Aside0 (kq ≤ k) ∧ Drawn0 w w')
  case atStart => exact ⟨(a0), (0), (by first | rfl | (simp; done) | (simp [*]; done)), (by first | rfl | (simp; done) | (simp [*]; done)), H', ⟨Nat.le_refl _⟩, by repeat (first | exact Drawn0.refl _ | apply Drawn0.step)⟩
  case round =>
    clear H'
    try clear c1
    try clear c2
    try clear p2
    obtain ⟨x0_1, x5_1, rfl, rfl, HA, HK1, ⟨m1, rfl⟩⟩ := hrel
    cases gk with
    | zero => exact absurd HA.out (by simp [flotillaref05_More.l0])
    | succ k1 =>
      have H := HA.out
      clear HA
      simp only [flotillaref05_More.l0] at H
      by_cases c3 : x5_1 < (l1.length : Int)
      · rw [if_pos c3] at H
        have c3b0 : decide (x5_1 < (l1.length : Int)) = true := decide_eq_true c3
        clear c3
        by_cases c4 : 0 ≤ x5_1
        · rw [if_pos c4] at H
          have c4b0 : decide (0 ≤ x5_1) = true := decide_eq_true c4
          clear c4
          have H' := Aside0.mk H
          clear H
          have p109 : 0 ≤ (x5_1 : Int) := of_decide_eq_true (by first | (with_reducible assumption) | assumption)
          have q109 : x5_1 < (l1.length : Int) := of_decide_eq_true (by first | (with_reducible assumption) | assumption)
          obtain ⟨ad109, e109, hx109_0⟩ := Kd.at_int HR1.out x5_1 p109 q109
          cases e109
          replace p109 := eq_true p109
          replace q109 := eq_true q109
          go_wp2
          go_roundg k1
          case measure => have := HK1.out; omega
          case rel => exact ⟨(IntKind.u64.wrap ((Go.bits .xor .u64 x0_1 (IntKind.u64.wrap (rd l1 x5_1))) * 1099511628211)), (wrap64 (x5_1 + 1)), (by first | rfl | (simp; done) | (simp [*]; done)), (by first | rfl | (simp; done) | (simp [*]; done)), H', ⟨by have := HK1.out; omega⟩, by repeat (first | exact Drawn0.refl _ | apply Drawn0.step)⟩
        · rw [if_neg c4] at H
          exact absurd H (by simp)
      · rw [if_neg c3] at H
        have c3b0 : decide (x5_1 < (l1.length : Int)) = false := decide_eq_false c3
        clear c3
        obtain rfl := Option.some.inj H
        go_wp2
        go_ret
        exact ⟨by first | rfl | (simp; done) | (simp [*]; done), by repeat (first | exact Drawn0.refl _ | apply Drawn0.step)⟩
theorem flotillaref05_More.loop (l : List Int) (h : ∀ x ∈ l, 0 ≤ x ∧ x < 256) (hl : l.length < 140737488355328) : ∀ (d i : Nat) (a : Int), i + d = l.length →
    Ev (fun k => flotillaref05_More.l0 k a l (i : Int)) (Go.Proofs.Ytalkodandfjkmaa.Dig.fnvL a (l.drop i)) := by
  intro d
  induction d with
  | zero =>
    intro i a hi
    refine Ev.step (fun _ => by simp only [flotillaref05_More.l0]; rfl) ?_
    rw [List.drop_of_length_le (by omega)]
    exact Ev.neg (by omega) (Ev.now _)
  | succ d ih =>
    intro i a hi
    have hlt : i < l.length := by omega
    have hb := h _ (List.getElem_mem hlt)
    refine Ev.step (fun _ => by simp only [flotillaref05_More.l0]; rfl) ?_
    refine Ev.pos (by omega) (Ev.pos (by omega) ?_)
    have e : rd l (i : Int) = l[i] := by simp [rd, List.getElem?_eq_getElem hlt]
    rw [wu_one i (by omega), e, List.drop_eq_getElem_cons hlt]
    exact ih (i + 1) _ (by omega)
theorem flotillaref05_More.ev (l : List Int) (h : ∀ x ∈ l, 0 ≤ x ∧ x < 256) (hl : l.length < 140737488355328) (a : Int) : Ev (fun k => flotillaref05_More.f k a l) (Go.Proofs.Ytalkodandfjkmaa.Dig.fnvL a l) :=
  flotillaref05_More.loop l h hl l.length 0 a (by omega)

/-! ### flotillaref05_Of: function 10 -/
def flotillaref05_Of.f (k : Nat) (l0 : List Int) : Option (Int) := (flotillaref05_More.f k 14695981039346656037 l0).bind fun t110 => (some t110)
theorem flotillaref05_Of.mono : ∀ a0 k, LeO (flotillaref05_Of.f k a0) (flotillaref05_Of.f (k + 1) a0) := by
  intro a0 k
  unfold flotillaref05_Of.f
  repeat' first
      | (with_reducible exact flotillaref05_More.mono _ _ _)
      | (with_reducible exact LeO.refl _)
      | (with_reducible exact LeO.none _)
      | (with_reducible refine LeO.ite ?_ ?_)
      | (with_reducible refine LeO.bind ?_ (fun _ => ?_))
      | exact flotillaref05_More.mono _ _ _
      | exact LeO.none _
      | refine LeO.ite ?_ ?_
      | refine LeO.bind ?_ (fun _ => ?_)
set_option maxHeartbeats 8000000 in
set_option maxRecDepth 100000 in
theorem flotillaref05_Of.calls (k : Nat) (A0 : Option Addr) (c0 : Nat) (l0 : List Int) (r : Int) (w : World) (hr0 : Kd.C (Kd.int .u8) w A0 l0.length l0) (hc0 : l0.length ≤ c0) (h : flotillaref05_Of.f k l0 = some r) :
    Calls Try.prog 10 #[.slice A0 l0.length c0] w fun e w' => e = .returned (.int .u64 r) ∧ Drawn0 w w' := by
  have HR0 := Aside0.mk hr0
  have HC0 := Aside0.mk hc0
  clear hr0 hc0
  have H : ((flotillaref05_More.f k 14695981039346656037 l0).bind fun t110 => (some t110)) = some r := h
  clear h
  replace H := Option.bind_eq_some_iff.mp H
  obtain ⟨t110, A20, H⟩ := H
  replace H : (some t110) = some r := H
  have A2 := Aside0.mk A20
  clear A20
  obtain rfl := Option.some.inj H
  go_enter Try.func10, Try.ntmps10
  go_wp2_with (first | ((with_reducible refine gate_callee (f := 25) rfl ?_); refine goesL_ (some 4) rfl rfl Try.func25 (by kernel_rfl) rfl #[.int .u64 14695981039346656037, .slice A0 l0.length c0] rfl (by (try simp only [List.map_toArray, List.map_cons, List.map_nil]); first | done | rfl | (simp only [List.length_drop, List.length_take]; rfl)) ?_; (with_reducible refine (flotillaref05_More.calls k 14695981039346656037 _ _ l0 t110 _ ?side1 ?side2 A2.out).mono ?_); (case side1 => repeat (first | exact HR0.out | (with_reducible refine Kd.C_alloc ?_ _) | (with_reducible refine Kd.C_drewN ?_ _) | (with_reducible refine Kd.C_drew ?_))); (case side2 => exact HC0.out); rintro e w' ⟨rfl, ⟨nd, rfl⟩⟩; refine ⟨_, rfl, ?_⟩))
  go_ret
  exact ⟨by first | rfl | (simp; done) | (simp [*]; done), by repeat (first | exact Drawn0.refl _ | apply Drawn0.step)⟩
theorem flotillaref05_Of.ev (l : List Int) (h : ∀ x ∈ l, 0 ≤ x ∧ x < 256) (hl : l.length < 140737488355328) : Ev (fun k => flotillaref05_Of.f k l) (Go.Proofs.Ytalkodandfjkmaa.Dig.fnvL 14695981039346656037 l) := by
  unfold flotillaref05_Of.f
  exact Ev.bind (flotillaref05_More.ev l h hl 14695981039346656037) (Ev.now _)

/-! ### flotillakit_KeptFullBytes: function 26 -/
def flotillakit_KeptFullBytes.l0 : Nat → List Int → List Int → Int → Option (Bool)
  | 0, _, _, _ => none
  | k + 1, x0, x1, x5 => if x5 < (x0.length : Int) then ((flotillakit_markBytes.f 90 (wrap64 (x5 - (x1.length : Int)))).bind fun t111 => (if x5 < (x1.length : Int) then (if 0 ≤ x5 then (if (rd x0 x5) = (rd x1 x5) then (flotillakit_KeptFullBytes.l0 k x0 x1 (wrap64 (x5 + 1))) else (some false)) else (none)) else (if 0 ≤ x5 then (if (rd x0 x5) = t111 then (flotillakit_KeptFullBytes.l0 k x0 x1 (wrap64 (x5 + 1))) else (some false)) else (none)))) else (some true)
def flotillakit_KeptFullBytes.f (k : Nat) (l0 : List Int) (l1 : List Int) : Option (Bool) := if (l0.length : Int) = (wrap64 ((l1.length : Int) + 16)) then (flotillakit_KeptFullBytes.l0 k l0 l1 0) else (some false)
theorem flotillakit_KeptFullBytes.mono_l : ∀ k, (∀ y0 y1 y2, LeO (flotillakit_KeptFullBytes.l0 k y0 y1 y2) (flotillakit_KeptFullBytes.l0 (k + 1) y0 y1 y2))
  | 0 => fun _ _ _ r h => by simp [flotillakit_KeptFullBytes.l0] at h
  | k + 1 => by
    have ih0 := flotillakit_KeptFullBytes.mono_l k
    · intro y0 y1 y2
      unfold flotillakit_KeptFullBytes.l0
      repeat' first
      | (with_reducible exact ih0 _ _ _)
      | (with_reducible exact LeO.refl _)
      | (with_reducible exact LeO.none _)
      | (with_reducible refine LeO.ite ?_ ?_)
      | (with_reducible refine LeO.bind ?_ (fun _ => ?_))
      | exact ih0 _ _ _
      | exact LeO.none _
      | refine LeO.ite ?_ ?_
      | refine LeO.bind ?_ (fun _ => ?_)
theorem flotillakit_KeptFullBytes.mono : ∀ a0 a1 k, LeO (flotillakit_KeptFullBytes.f k a0 a1) (flotillakit_KeptFullBytes.f (k + 1) a0 a1) := by
  intro a0 a1 k
  have ih0 := flotillakit_KeptFullBytes.mono_l k
  unfold flotillakit_KeptFullBytes.f
  repeat' first
      | (with_reducible exact ih0 _ _ _)
      | (with_reducible exact LeO.refl _)
      | (with_reducible exact LeO.none _)
      | (with_reducible refine LeO.ite ?_ ?_)
      | (with_reducible refine LeO.bind ?_ (fun _ => ?_))
      | exact ih0 _ _ _
      | exact LeO.none _
      | refine LeO.ite ?_ ?_
      | refine LeO.bind ?_ (fun _ => ?_)
set_option maxHeartbeats 8000000 in
set_option maxRecDepth 100000 in
theorem flotillakit_KeptFullBytes.calls (k : Nat) (A0 : Option Addr) (c0 : Nat) (l0 : List Int) (A1 : Option Addr) (c1 : Nat) (l1 : List Int) (r : Bool) (w : World) (hr0 : Kd.C (Kd.int .u8) w A0 l0.length l0) (hc0 : l0.length ≤ c0) (hr1 : Kd.C (Kd.int .u8) w A1 l1.length l1) (hc1 : l1.length ≤ c1) (h : flotillakit_KeptFullBytes.f k l0 l1 = some r) :
    Calls Try.prog 26 #[.slice A0 l0.length c0, .slice A1 l1.length c1] w fun e w' => e = .returned (.bool r) ∧ Drawn0 w w' := by
  have HR0 := Aside0.mk hr0
  have HC0 := Aside0.mk hc0
  clear hr0 hc0
  have HR1 := Aside0.mk hr1
  have HC1 := Aside0.mk hc1
  clear hr1 hc1
  have H : (if (l0.length : Int) = (wrap64 ((l1.length : Int) + 16)) then (flotillakit_KeptFullBytes.l0 k l0 l1 0) else (some false)) = some r := h
  clear h
  by_cases c3 : (l0.length : Int) = (wrap64 ((l1.length : Int) + 16))
  · rw [if_pos c3] at H
    have c3b0 : ((l0.length : Int) == (wrap64 ((l1.length : Int) + 16))) = true := beq_iff_eq.mpr c3
    have c3b1 : ((l0.length : Int) != (wrap64 ((l1.length : Int) + 16))) = false := bne_eq_false_iff_eq.mpr c3
    clear c3
    have H' := Aside0.mk H
    clear H
    go_enter Try.func26, Try.ntmps26
    go_wp2
    go_loopg [5] k (fun kq v5 w' => ∃ (x5_1 : Int), v5 = .int .i64 x5_1 ∧ Aside0 (flotillakit_KeptFullBytes.l0 kq l0 l1 x5_1 = some r) ∧ Aside0 (kq ≤ k) ∧ Drawn0 w w')
    case atStart => exact ⟨(0), (by first | rfl | (simp; done) | (simp [*]; done)), H', ⟨Nat.le_refl _⟩, by repeat (first | exact Drawn0.refl _ | apply Drawn0.step)⟩
    case round =>
      clear H'
      try clear c1
      try clear c2
      try clear p2
      try clear c3
      try clear c3b0
      try clear c3b1
      obtain ⟨x5_1, rfl, HA, HK1, ⟨m1, rfl⟩⟩ := hrel
      cases gk with
      | zero => exact absurd HA.out (by simp [flotillakit_KeptFullBytes.l0])
      | succ k1 =>
        have H := HA.out
        clear HA
        simp only [flotillakit_KeptFullBytes.l0] at H
        by_cases c4 : x5_1 < (l0.length : Int)
        · rw [if_pos c4] at H
          have c4b0 : decide (x5_1 < (l0.length : Int)) = true := decide_eq_true c4
          clear c4
          replace H := Option.bind_eq_some_iff.mp H
          obtain ⟨t111, A50, H⟩ := H
          replace H : (if x5_1 < (l1.length : Int) then (if 0 ≤ x5_1 then (if (rd l0 x5_1) = (rd l1 x5_1) then (flotillakit_KeptFullBytes.l0 k1 l0 l1 (wrap64 (x5_1 + 1))) else (some false)) else (none)) else (if 0 ≤ x5_1 then (if (rd l0 x5_1) = t111 then (flotillakit_KeptFullBytes.l0 k1 l0 l1 (wrap64 (x5_1 + 1))) else (some false)) else (none))) = some r := H
          have A5 := Aside0.mk A50
          clear A50
          by_cases c6 : x5_1 < (l1.length : Int)
          · rw [if_pos c6] at H
            have c6b0 : decide (x5_1 < (l1.length : Int)) = true := decide_eq_true c6
            clear c6
            by_cases c7 : 0 ≤ x5_1
            · rw [if_pos c7] at H
              have c7b0 : decide (0 ≤ x5_1) = true := decide_eq_true c7
              clear c7
              by_cases c8 : (rd l0 x5_1) = (rd l1 x5_1)
              · rw [if_pos c8] at H
                have c8b0 : ((rd l0 x5_1) == (rd l1 x5_1)) = true := beq_iff_eq.mpr c8
                have c8b1 : ((rd l0 x5_1) != (rd l1 x5_1)) = false := bne_eq_false_iff_eq.mpr c8
                clear c8
                have H' := Aside0.mk H
                clear H
                go_wp2_with (first | ((with_reducible refine gate_callee (f := 34) rfl ?_); refine goesL_ (some 23) rfl rfl Try.func34 (by kernel_rfl) rfl #[.int .i64 90, .int .i64 (wrap64 (x5_1 - (l1.length : Int)))] rfl (by (try simp only [List.map_toArray, List.map_cons, List.map_nil]); first | done | rfl | (simp only [List.length_drop, List.length_take]; rfl)) ?_; (with_reducible refine (flotillakit_markBytes.calls 90 (wrap64 (x5_1 - (l1.length : Int))) t111 _ A5.out).mono ?_); rintro e w' ⟨rfl, ⟨nd, rfl⟩⟩; refine ⟨_, rfl, ?_⟩; have p112 : 0 ≤ (x5_1 : Int) := of_decide_eq_true (by first | (with_reducible assumption) | assumption); have q112 : x5_1 < (l1.length : Int) := of_decide_eq_true (by first | (with_reducible assumption) | assumption); obtain ⟨ad112, e112, hx112_0⟩ := Kd.at_int HR1.out x5_1 p112 q112; cases e112; replace p112 := eq_true p112; replace q112 := eq_true q112; have p113 : 0 ≤ (x5_1 : Int) := of_decide_eq_true (by first | (with_reducible assumption) | assumption); have q113 : x5_1 < (l0.length : Int) := of_decide_eq_true (by first | (with_reducible assumption) | assumption); obtain ⟨ad113, e113, hx113_0⟩ := Kd.at_int HR0.out x5_1 p113 q113; cases e113; replace p113 := eq_true p113; replace q113 := eq_true q113))
                go_roundg k1
                case measure => have := HK1.out; omega
                case rel => exact ⟨(wrap64 (x5_1 + 1)), (by first | rfl | (simp; done) | (simp [*]; done)), H', ⟨by have := HK1.out; omega⟩, by repeat (first | exact Drawn0.refl _ | apply Drawn0.step)⟩
              · rw [if_neg c8] at H
                have c8b0 : ((rd l0 x5_1) == (rd l1 x5_1)) = false := beq_eq_false_iff_ne.mpr c8
                have c8b1 : ((rd l0 x5_1) != (rd l1 x5_1)) = true := bne_iff_ne.mpr c8
                obtain rfl := Option.some.inj H
                go_wp2_with (first | ((with_reducible refine gate_callee (f := 34) rfl ?_); refine goesL_ (some 23) rfl rfl Try.func34 (by kernel_rfl) rfl #[.int .i64 90, .int .i64 (wrap64 (x5_1 - (l1.length : Int)))] rfl (by (try simp only [List.map_toArray, List.map_cons, List.map_nil]); first | done | rfl | (simp only [List.length_drop, List.length_take]; rfl)) ?_; (with_reducible refine (flotillakit_markBytes.calls 90 (wrap64 (x5_1 - (l1.length : Int))) t111 _ A5.out).mono ?_); rintro e w' ⟨rfl, ⟨nd, rfl⟩⟩; refine ⟨_, rfl, ?_⟩; have p112 : 0 ≤ (x5_1 : Int) := of_decide_eq_true (by first | (with_reducible assumption) | assumption); have q112 : x5_1 < (l1.length : Int) := of_decide_eq_true (by first | (with_reducible assumption) | assumption); obtain ⟨ad112, e112, hx112_0⟩ := Kd.at_int HR1.out x5_1 p112 q112; cases e112; replace p112 := eq_true p112; replace q112 := eq_true q112; have p113 : 0 ≤ (x5_1 : Int) := of_decide_eq_true (by first | (with_reducible assumption) | assumption); have q113 : x5_1 < (l0.length : Int) := of_decide_eq_true (by first | (with_reducible assumption) | assumption); obtain ⟨ad113, e113, hx113_0⟩ := Kd.at_int HR0.out x5_1 p113 q113; cases e113; replace p113 := eq_true p113; replace q113 := eq_true q113))
                go_ret
                exact ⟨by first | rfl | (simp; done) | (simp [*]; done), by repeat (first | exact Drawn0.refl _ | apply Drawn0.step)⟩
            · rw [if_neg c7] at H
              exact absurd H (by simp)
          · rw [if_neg c6] at H
            have c6b0 : decide (x5_1 < (l1.length : Int)) = false := decide_eq_false c6
            clear c6
            by_cases c9 : 0 ≤ x5_1
            · rw [if_pos c9] at H
              have c9b0 : decide (0 ≤ x5_1) = true := decide_eq_true c9
              clear c9
              by_cases c10 : (rd l0 x5_1) = t111
              · rw [if_pos c10] at H
                have c10b0 : ((rd l0 x5_1) == t111) = true := beq_iff_eq.mpr c10
                have c10b1 : ((rd l0 x5_1) != t111) = false := bne_eq_false_iff_eq.mpr c10
                clear c10
                have H' := Aside0.mk H
                clear H
                go_wp2_with (first | ((with_reducible refine gate_callee (f := 34) rfl ?_); refine goesL_ (some 23) rfl rfl Try.func34 (by kernel_rfl) rfl #[.int .i64 90, .int .i64 (wrap64 (x5_1 - (l1.length : Int)))] rfl (by (try simp only [List.map_toArray, List.map_cons, List.map_nil]); first | done | rfl | (simp only [List.length_drop, List.length_take]; rfl)) ?_; (with_reducible refine (flotillakit_markBytes.calls 90 (wrap64 (x5_1 - (l1.length : Int))) t111 _ A5.out).mono ?_); rintro e w' ⟨rfl, ⟨nd, rfl⟩⟩; refine ⟨_, rfl, ?_⟩; have p114 : 0 ≤ (x5_1 : Int) := of_decide_eq_true (by first | (with_reducible assumption) | assumption); have q114 : x5_1 < (l0.length : Int) := of_decide_eq_true (by first | (with_reducible assumption) | assumption); obtain ⟨ad114, e114, hx114_0⟩ := Kd.at_int HR0.out x5_1 p114 q114; cases e114; replace p114 := eq_true p114; replace q114 := eq_true q114))
                go_roundg k1
                case measure => have := HK1.out; omega
                case rel => exact ⟨(wrap64 (x5_1 + 1)), (by first | rfl | (simp; done) | (simp [*]; done)), H', ⟨by have := HK1.out; omega⟩, by repeat (first | exact Drawn0.refl _ | apply Drawn0.step)⟩
              · rw [if_neg c10] at H
                have c10b0 : ((rd l0 x5_1) == t111) = false := beq_eq_false_iff_ne.mpr c10
                have c10b1 : ((rd l0 x5_1) != t111) = true := bne_iff_ne.mpr c10
                obtain rfl := Option.some.inj H
                go_wp2_with (first | ((with_reducible refine gate_callee (f := 34) rfl ?_); refine goesL_ (some 23) rfl rfl Try.func34 (by kernel_rfl) rfl #[.int .i64 90, .int .i64 (wrap64 (x5_1 - (l1.length : Int)))] rfl (by (try simp only [List.map_toArray, List.map_cons, List.map_nil]); first | done | rfl | (simp only [List.length_drop, List.length_take]; rfl)) ?_; (with_reducible refine (flotillakit_markBytes.calls 90 (wrap64 (x5_1 - (l1.length : Int))) t111 _ A5.out).mono ?_); rintro e w' ⟨rfl, ⟨nd, rfl⟩⟩; refine ⟨_, rfl, ?_⟩; have p114 : 0 ≤ (x5_1 : Int) := of_decide_eq_true (by first | (with_reducible assumption) | assumption); have q114 : x5_1 < (l0.length : Int) := of_decide_eq_true (by first | (with_reducible assumption) | assumption); obtain ⟨ad114, e114, hx114_0⟩ := Kd.at_int HR0.out x5_1 p114 q114; cases e114; replace p114 := eq_true p114; replace q114 := eq_true q114))
                go_ret
                exact ⟨by first | rfl | (simp; done) | (simp [*]; done), by repeat (first | exact Drawn0.refl _ | apply Drawn0.step)⟩
            · rw [if_neg c9] at H
              exact absurd H (by simp)
        · rw [if_neg c4] at H
          have c4b0 : decide (x5_1 < (l0.length : Int)) = false := decide_eq_false c4
          clear c4
          obtain rfl := Option.some.inj H
          go_wp2
          go_ret
          exact ⟨by first | rfl | (simp; done) | (simp [*]; done), by repeat (first | exact Drawn0.refl _ | apply Drawn0.step)⟩
  · rw [if_neg c3] at H
    have c3b0 : ((l0.length : Int) == (wrap64 ((l1.length : Int) + 16))) = false := beq_eq_false_iff_ne.mpr c3
    have c3b1 : ((l0.length : Int) != (wrap64 ((l1.length : Int) + 16))) = true := bne_iff_ne.mpr c3
    obtain rfl := Option.some.inj H
    go_enter Try.func26, Try.ntmps26
    go_wp2
    go_ret
    exact ⟨by first | rfl | (simp; done) | (simp [*]; done), by repeat (first | exact Drawn0.refl _ | apply Drawn0.step)⟩
theorem flotillakit_KeptFullBytes.loop (l : List Int) (hl : l.length + 16 < 140737488355328) (m : Nat) : ∀ (d i : Nat), i + d = l.length + 16 → flotillakit_KeptFullBytes.l0 (m + 1 + d) (l ++ flotillakit_FullBytes.marks 16) l (i : Int) = some true := by
  have hlen : (l ++ flotillakit_FullBytes.marks 16).length = l.length + 16 := by rw [List.length_append, flotillakit_FullBytes.marks_length]
  intro d
  induction d with
  | zero =>
    intro i hi
    rw [Nat.add_zero, flotillakit_KeptFullBytes.l0, if_neg (by omega)]
  | succ d ih =>
    intro i hi
    show flotillakit_KeptFullBytes.l0 ((m + 1 + d) + 1) _ _ _ = _
    rw [flotillakit_KeptFullBytes.l0, if_pos (by omega), flotillakit_markBytes.is, Option.bind_some]
    by_cases hlt : i < l.length
    · have e : rd (l ++ flotillakit_FullBytes.marks 16) (i : Int) = rd l (i : Int) := by
        simp [rd, List.getElem?_append_left hlt]
      rw [if_pos (by omega), if_pos (by omega), e, if_pos rfl, flotillakit_markBytes.one i (by omega)]
      exact ih (i + 1) (by omega)
    · obtain ⟨j, rfl⟩ : ∃ j, i = l.length + j := ⟨i - l.length, by omega⟩
      have e : rd (l ++ flotillakit_FullBytes.marks 16) ((l.length + j : Nat) : Int) = rd (flotillakit_FullBytes.marks 16) (j : Int) := by
        simp only [rd, Int.toNat_natCast]
        simp [List.getElem?_append_right]
      rw [if_neg (by omega), if_pos (by omega), e, flotillakit_markBytes.off _ j (by omega), flotillakit_FullBytes.marks_get j (by omega), if_pos rfl, flotillakit_markBytes.one _ (by omega)]
      exact ih (l.length + j + 1) (by omega)
theorem flotillakit_KeptFullBytes.spec (l : List Int) (hl : l.length + 16 < 140737488355328) (k : Nat) (hk : l.length + 18 ≤ k) : flotillakit_KeptFullBytes.f k (l ++ flotillakit_FullBytes.marks 16) l = some true := by
  have hlen : (l ++ flotillakit_FullBytes.marks 16).length = l.length + 16 := by rw [List.length_append, flotillakit_FullBytes.marks_length]
  have := flotillakit_KeptFullBytes.loop l hl (k - 17 - l.length) (l.length + 16) 0 (by omega)
  rw [show k - 17 - l.length + 1 + (l.length + 16) = k by omega] at this
  unfold flotillakit_KeptFullBytes.f
  rw [IntWalk.wrap64_in _ ⟨by omega, by omega⟩, if_pos (by omega)]
  exact this

/-! ### flotillakit_KeptBytes: function 11 -/
/-- Is the lent list as it was, its spare room too? -/
theorem flotillakit_KeptBytes.kept (k : Nat) (ad : Addr) (c0 : Nat) (full : List Int) (A1 : Option Addr) (c1 : Nat) (l1 : List Int) (r : Bool) (w : World) (hr0 : Kd.C (Kd.int .u8) w (some ad) full.length full) (hc0 : full.length ≤ c0)
    (hr1 : Kd.C (Kd.int .u8) w A1 l1.length l1) (hc1 : l1.length ≤ c1) (hn : full.length = l1.length + 16) (h : flotillakit_KeptFullBytes.f k full l1 = some r) :
    Calls Try.prog 11 #[.slice (some ad) l1.length c0, .slice A1 l1.length c1] w fun e w' => e = .returned (.bool r) ∧ Drawn0 w w' := by
  have hm := Kd.C_max hr0
  have C := fun w hr0 hr1 => flotillakit_KeptFullBytes.calls k (some ad) c0 full A1 c1 l1 r w hr0 hc0 hr1 hc1 h
  rw [hn] at hr0 C hc0 hm
  have HR0 := Lib.hid hr0
  have HR1 := Lib.hid hr1
  clear hr0 hr1
  go_enter Try.func11, Try.ntmps11
  go_wp2_with fail
  refine (C _ HR0.out HR1.out).mono ?_
  rintro e w' ⟨rfl, hd⟩
  go_wp2_with fail
  go_ret
  exact ⟨rfl, hd⟩

/-! ### flotillalaw05_DigestOf: function 3 -/
/-- What the law's parts say, together. -/
def flotillalaw05_DigestOf.f (k : Nat) (l0 : List Int) : Option Bool :=
  if (l0.length : Int) > 16777216 then some true else
  (flotillakit_FullBytes.f k l0).bind fun full => (digest_Of.f l0).bind fun x => (flotillaref05_Of.f k l0).bind fun y => (flotillakit_KeptFullBytes.f k full l0).bind fun t =>
    if full.length = l0.length + 16 ∧ full.take l0.length = l0 ∧ x = y ∧ t = true then some true else none
set_option maxRecDepth 100000 in
theorem flotillalaw05_DigestOf.calls (k : Nat) (A0 : Option Addr) (c0 : Nat) (l0 : List Int) (r : Bool) (w : World) (hr0 : Kd.C (Kd.int .u8) w A0 l0.length l0) (hc0 : l0.length ≤ c0) (h : flotillalaw05_DigestOf.f k l0 = some r) :
    Calls Try.prog 3 #[.slice A0 l0.length c0] w fun e w' => e = .returned (.bool r) ∧ Below w.heap.size w w' := by
  unfold flotillalaw05_DigestOf.f at h
  by_cases hb : (l0.length : Int) > 16777216
  · rw [if_pos hb] at h
    obtain rfl := Option.some.inj h
    have hd : decide ((l0.length : Int) > 16777216) = true := decide_eq_true hb
    have hlt : (16777216 : Int) < (l0.length : Int) := hb
    have HR := Lib.hid hr0
    clear hr0 h
    go_enter Try.func3, Try.ntmps3
    go_wp2
    go_ret
    exact ⟨rfl, Below.refl _ _⟩
  · rw [if_neg hb] at h
    have hd : decide ((l0.length : Int) > 16777216) = false := decide_eq_false hb
    have hlt : (l0.length : Int) ≤ 16777216 := by omega
    obtain ⟨full, hfull, h⟩ := Option.bind_eq_some_iff.mp h
    obtain ⟨x, hx, h⟩ := Option.bind_eq_some_iff.mp h
    obtain ⟨y, hy, h⟩ := Option.bind_eq_some_iff.mp h
    obtain ⟨t, ht, h⟩ := Option.bind_eq_some_iff.mp h
    by_cases hc : full.length = l0.length + 16 ∧ full.take l0.length = l0 ∧ x = y ∧ t = true
    · rw [if_pos hc] at h
      obtain rfl := Option.some.inj h
      obtain ⟨hn, htk, rfl, rfl⟩ := hc
      have HN := Lib.hid hn
      have HT := Lib.hid htk
      have HR1 := Lib.hid hr0
      clear hr0 hn htk hb
      go_enter Try.func3, Try.ntmps3
      go_wp2_with fail
      refine (flotillakit_LentBytes.lent k _ _ l0 full _ HR1.out hc0 HN.out hfull).mono ?_
      rintro e w1 ⟨ad, c, rfl, hc, hr, hbk, hb⟩
      have HR := Lib.hid hr
      have HY := Lib.hid (show Kd.C (Kd.int .u8) w1 (some ad) l0.length l0 by
        have h1 := Kd.C_take (m := l0.length) hr (by have := HN.out; omega)
        rw [HT.out] at h1
        exact h1)
      have hle : l0.length ≤ c := by have := HN.out; omega
      clear hr
      have H1 := Lib.hid (Kd.C_below HR1.out hb)
      go_wp2_with fail
      refine (digest_Of.calls _ _ l0 x _ HY.out hle hx).mono ?_
      rintro e w2 ⟨rfl, b2⟩
      go_wp2_with fail
      refine (flotillaref05_Of.calls k _ _ l0 x _ (Kd.C_below H1.out b2) hc0 hy).mono ?_
      rintro e w3 ⟨rfl, hd3⟩
      have b3 := below_step b2 hd3.below
      clear hd3
      go_wp2_with fail
      refine (flotillakit_KeptBytes.kept k ad c full _ _ l0 true _ (Kd.C_below HR.out b3) hc (Kd.C_below H1.out b3) hc0 HN.out ht).mono ?_
      rintro e w4 ⟨rfl, hd4⟩
      have b4 := below_step b3 hd4.below
      clear hd4
      go_wp2_with fail
      go_ret
      exact ⟨rfl, below_step hb b4⟩
    · rw [if_neg hc] at h
      cases h

end Go.Proofs.Ytalkodandfjkmaa.Print
