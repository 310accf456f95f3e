/- The functions below as plain Lean functions, each with the proof that the calls come to it; written by a program over the kit's print. -/
import Derived.Test.YtalkodandfjkmaaDoorPrintx0
import Derived.Test.YtalkodandfjkmaaDoorPrintx2
namespace Go.Proofs.YtalkodandfjkmaaDoor.Print
open Go.RowKit Go.Proofs.YtalkodandfjkmaaDoorW.PrintWords Go.Proofs.YtalkodandfjkmaaDoorW.PrintLast Go.Proofs.YtalkodandfjkmaaDoorW.PrintMore
attribute [local go_sem] max2_int min2_int max_two min_two max_three min_three max_four min_four   -- for this text's walks alone
set_option linter.unusedVariables false
set_option linter.unusedSimpArgs false

/-! ### digest_Text: function 7 -/
def digest_Text.f (a0 : Int) : Option ByteArray := some (Go.Proofs.YtalkodandfjkmaaDoor.Dig.textB a0)
theorem digest_Text.calls (a0 : Int) (r : ByteArray) (w : World) (h : digest_Text.f a0 = some r) :
    Calls Tryd.prog 7 #[.int .u64 a0] w fun e w' => e = .returned (.string r) ∧ Below w.heap.size w w' := by
  obtain rfl := Option.some.inj h
  exact Go.Proofs.YtalkodandfjkmaaDoor.Dig.text_calls a0 w

/-! ### flotillakit_Plain: function 9 -/
-- GLOB
def flotillakit_Plain.f (a0 : Option Int) (a1 : Int) : Option Bool := some (Go.Proofs.YtalkodandfjkmaaDoor.Pl.plainE (a0.map fun c => (c, none)) a1)
theorem flotillakit_Plain.calls (a0 : Option Int) (a1 : Int) (r : Bool) (w : World) (hG : Go.Proofs.YtalkodandfjkmaaDoor.As.Glob w) (h : flotillakit_Plain.f a0 a1 = some r) :
    Calls Tryd.prog 9 #[errW a0, .int .i64 a1] w fun e w' => e = .returned (.bool r) ∧ Below w.heap.size w w' := by
  obtain rfl := Option.some.inj h
  have e1 : errW a0 = Go.Proofs.YtalkodandfjkmaaDoor.Pl.errV (a0.map fun c => (c, none)) := by cases a0 <;> rfl
  rw [e1]
  exact Go.Proofs.YtalkodandfjkmaaDoor.Pl.plain_calls _ a1 w hG

/-! ### digest_Of: function 11 -/
def digest_Of.f (l0 : List Int) : Option Int := some (Go.Proofs.YtalkodandfjkmaaDoor.Dig.fnvL 14695981039346656037 l0)
theorem digest_Of.calls (A0 : Option Addr) (c0 : Nat) (l0 : List Int) (r : Int) (w : World) (hr0 : Kd.C (Kd.int .u8) w A0 l0.length l0) (hc0 : l0.length ≤ c0) (h : digest_Of.f l0 = some r) :
    Calls Tryd.prog 11 #[.slice A0 l0.length c0] w fun e w' => e = .returned (.int .u64 r) ∧ Below w.heap.size w w' := by
  obtain rfl := Option.some.inj h
  exact Go.Proofs.YtalkodandfjkmaaDoor.Dig.of_calls A0 c0 l0 w hr0

/-! ### flotillalaw05_works: function 10 -/
def flotillalaw05_works.f : Option Bool := some true
set_option maxRecDepth 100000 in
set_option maxHeartbeats 1000000 in
theorem flotillalaw05_works.calls (r : Bool) (w : World) (h : flotillalaw05_works.f = some r) :
    Calls Tryd.prog 10 #[] w fun e w' => e = .returned (.bool r) ∧ Below w.heap.size w w' := by
  obtain rfl := Option.some.inj h
  have HP := Lib.hid (show digest_Parse.f 20 ⟨#[97, 97, 97, 97, 97, 97, 97, 97, 97, 97, 97, 97, 98]⟩ = some (1, none) by decide +kernel)
  have HO := Lib.hid (show Go.Proofs.YtalkodandfjkmaaDoor.Dig.fnvL 14695981039346656037 [102, 111, 111, 98, 97, 114] = 9625390261332436968 by decide +kernel)
  have HT := Lib.hid (show Go.Proofs.YtalkodandfjkmaaDoor.Dig.textB 1 = ⟨#[97, 97, 97, 97, 97, 97, 97, 97, 97, 97, 97, 97, 98]⟩ by decide +kernel)
  go_enter Tryd.func10, Tryd.ntmps10
  go_wp2_with fail
  refine (digest_Parse.calls 20 _ 1 none _ HP.out).mono ?_
  rintro e w' ⟨rfl, nd, rfl⟩
  simp only [errW_none]
  have kc := Joins.run_convert_bytes_const_at (P := Tryd.prog) (w.drewN nd) 34 5 #[.int .u8 102, .int .u8 111, .int .u8 111, .int .u8 98, .int .u8 97, .int .u8 114] 6 6 w.heap.size rfl Tryd.underlying34 Tryd.underlying5
  go_wp2_with fail
  refine (Go.Proofs.YtalkodandfjkmaaDoor.Dig.of_calls _ 6 [102, 111, 111, 98, 97, 114] _ (Go.Proofs.YtalkodandfjkmaaDoor.Dig.C_new .u8 (w.drewN nd) [102, 111, 111, 98, 97, 114] 5 (6, 7) (by simp))).mono ?_
  rintro e w' ⟨rfl, hb⟩
  rw [HO.out]
  go_wp2_with fail
  refine (Go.Proofs.YtalkodandfjkmaaDoor.Dig.text_calls 1 _).mono ?_
  rintro e w2 ⟨rfl, hb2⟩
  rw [HT.out]
  go_wp2
  go_ret
  have h1 := below_step (below_alloc (pw_below_drewN (Below.refl w.heap.size w) nd) _) hb
  exact ⟨rfl, below_step h1 hb2⟩

/-! ### digest_Template: function 12 -/
def digest_Template.f (a0_0 : Int) (a0_1 : ByteArray) (a0_2 : Int) (a0_3 : Int) (l0_4 : List (S39)) (a0_5 : Int) (a0_6 : Int) (a0_7 : Bool) (a0_8 : Bool) (a0_9 : Bool) (a0_10 : Int) (a0_11 : ByteArray) (a0_12 : ByteArray) (a0_13 : ByteArray) (a0_14 : Int) (a0_15 : Bool) (a0_16 : Bool) (a0_17 : Int) (a0_18 : Int) (a0_19 : ByteArray) (a0_20 : Int) (a0_21 : Int) (a0_22 : Int) (a0_23 : Int) (a0_24 : Int) (a0_25 : Bool) (a0_26 : Int) (l0_27 : List (S39)) (a0_28 : Int) (a0_29 : ByteArray) (a0_30 : Int) (a0_31 : Int) : Option (Int) := if a0_19.size ≤ 140737488351232 ∧ ∀ x ∈ l0_4, x.f0.size ≤ 140737488351232 ∧ x.f1.size ≤ 140737488351232 then some (Go.Proofs.YtalkodandfjkmaaDoor.Dig.fnvL 14695981039346656037 (Go.Proofs.YtalkodandfjkmaaDoor.Dig.itsB (Go.Proofs.YtalkodandfjkmaaDoor.Dig.tmplIts a0_19 a0_17 a0_18 a0_20 a0_21 (l0_4.map fun x => (x.f0, x.f1)) ++ Go.Proofs.YtalkodandfjkmaaDoor.Dig.labIts (l0_4.map fun x => (x.f0, x.f1))))) else none
theorem digest_Template.calls (a0_0 : Int) (a0_1 : ByteArray) (a0_2 : Int) (a0_3 : Int) (A0_4 : Option Addr) (c0_4 : Nat) (l0_4 : List (S39)) (a0_5 : Int) (a0_6 : Int) (a0_7 : Bool) (a0_8 : Bool) (a0_9 : Bool) (a0_10 : Int) (a0_11 : ByteArray) (a0_12 : ByteArray) (a0_13 : ByteArray) (a0_14 : Int) (a0_15 : Bool) (a0_16 : Bool) (a0_17 : Int) (a0_18 : Int) (a0_19 : ByteArray) (a0_20 : Int) (a0_21 : Int) (a0_22 : Int) (a0_23 : Int) (a0_24 : Int) (a0_25 : Bool) (a0_26 : Int) (A0_27 : Option Addr) (c0_27 : Nat) (l0_27 : List (S39)) (a0_28 : Int) (a0_29 : ByteArray) (a0_30 : Int) (a0_31 : Int) (r : Int) (w : World) (hr0_4 : Kd.C k39 w A0_4 l0_4.length l0_4) (hc0_4 : l0_4.length ≤ c0_4) (hr0_27 : Kd.C k39 w A0_27 l0_27.length l0_27) (hc0_27 : l0_27.length ≤ c0_27) (h : digest_Template.f a0_0 a0_1 a0_2 a0_3 l0_4 a0_5 a0_6 a0_7 a0_8 a0_9 a0_10 a0_11 a0_12 a0_13 a0_14 a0_15 a0_16 a0_17 a0_18 a0_19 a0_20 a0_21 a0_22 a0_23 a0_24 a0_25 a0_26 l0_27 a0_28 a0_29 a0_30 a0_31 = some r) :
    Calls Tryd.prog 12 #[.agg #[.int .i64 a0_0, .string a0_1, .int .i64 a0_2, .int .i64 a0_3, .slice A0_4 l0_4.length c0_4, .int .i64 a0_5, .int .i64 a0_6, .bool a0_7, .bool a0_8, .bool a0_9, .int .i64 a0_10, .string a0_11, .string a0_12, .string a0_13, .int .i64 a0_14, .bool a0_15, .bool a0_16, .int .i64 a0_17, .int .i64 a0_18, .string a0_19, .int .i64 a0_20, .int .i64 a0_21, .int .i64 a0_22, .int .i64 a0_23, .int .i64 a0_24, .bool a0_25, .int .u64 a0_26, .slice A0_27 l0_27.length c0_27, .int .i64 a0_28, .string a0_29, .int .i64 a0_30, .int .i64 a0_31]] w fun e w' => e = .returned (.int .u64 r) ∧ Below w.heap.size w w' := by
  unfold digest_Template.f at h
  split at h
  · rename_i hb
    obtain rfl := Option.some.inj h
    have hC := Go.Proofs.YtalkodandfjkmaaDoor.Dig.C_map (d := Kd.pair Kd.string Kd.string) (f := fun x : S39 => (x.f0, x.f1)) hr0_4
    have hl : (l0_4.map fun x : S39 => (x.f0, x.f1)).length = l0_4.length := List.length_map _
    have h1 := Go.Proofs.YtalkodandfjkmaaDoor.Dig.template_calls A0_4 c0_4 (l0_4.map fun x => (x.f0, x.f1)) a0_17 a0_18 a0_20 a0_21 a0_19 (.int .i64 a0_0) (.string a0_1) (.int .i64 a0_2) (.int .i64 a0_3) (.int .i64 a0_5) (.int .i64 a0_6) (.bool a0_7) (.bool a0_8) (.bool a0_9) (.int .i64 a0_10) (.string a0_11) (.string a0_12) (.string a0_13) (.int .i64 a0_14) (.bool a0_15) (.bool a0_16) (.int .i64 a0_22) (.int .i64 a0_23) (.int .i64 a0_24) (.bool a0_25) (.int .u64 a0_26) (.slice A0_27 l0_27.length c0_27) (.int .i64 a0_28) (.string a0_29) (.int .i64 a0_30) (.int .i64 a0_31) w (by rw [hl]; exact hC) hb.1 (by
      intro x hx
      obtain ⟨y, hy, rfl⟩ := List.mem_map.1 hx
      exact hb.2 y hy)
    rw [hl] at h1
    exact h1
  · exact absurd h (by simp)


/-! ### flotillaref0_CopyLabels: function 19 -/
def flotillaref0_CopyLabels.l0 : Nat → List (S39) → List (S39) → Int → Option ((List (S39)))
  | 0, _, _, _ => none
  | k + 1, x0, x3, x4 => if x4 < (x0.length : Int) then (if 0 ≤ x4 then (if x3.length < 4398046511104 then (flotillaref0_CopyLabels.l0 k x0 (x3 ++ [(⟨(rd_T39 x0 x4).f0, (rd_T39 x0 x4).f1⟩ : S39)]) (wrap64 (x4 + 1))) else (none)) else (none)) else (some x3)
def flotillaref0_CopyLabels.f (k : Nat) (l0 : List (S39)) : Option ((List (S39))) := flotillaref0_CopyLabels.l0 k l0 ([] : List (S39)) 0
theorem flotillaref0_CopyLabels.mono_l : ∀ k, (∀ y0 y1 y2, LeO (flotillaref0_CopyLabels.l0 k y0 y1 y2) (flotillaref0_CopyLabels.l0 (k + 1) y0 y1 y2))
  | 0 => fun _ _ _ r h => by simp [flotillaref0_CopyLabels.l0] at h
  | k + 1 => by
    have ih0 := flotillaref0_CopyLabels.mono_l k
    · intro y0 y1 y2
      unfold flotillaref0_CopyLabels.l0
      repeat' first
      | (with_reducible exact ih0 _ _ _)
      | (with_reducible exact LeO.refl _)
      | (with_reducible exact LeO.none _)
      | (with_reducible refine LeO.ite ?_ ?_)
      | (with_reducible refine LeO.bind ?_ (fun _ => ?_))
      | exact ih0 _ _ _
      | exact LeO.none _
      | refine LeO.ite ?_ ?_
      | refine LeO.bind ?_ (fun _ => ?_)
theorem flotillaref0_CopyLabels.mono : ∀ a0 k, LeO (flotillaref0_CopyLabels.f k a0) (flotillaref0_CopyLabels.f (k + 1) a0) := by
  intro a0 k
  have ih0 := flotillaref0_CopyLabels.mono_l k
  unfold flotillaref0_CopyLabels.f
  repeat' first
      | (with_reducible exact ih0 _ _ _)
      | (with_reducible exact LeO.refl _)
      | (with_reducible exact LeO.none _)
      | (with_reducible refine LeO.ite ?_ ?_)
      | (with_reducible refine LeO.bind ?_ (fun _ => ?_))
      | exact ih0 _ _ _
      | exact LeO.none _
      | refine LeO.ite ?_ ?_
      | refine LeO.bind ?_ (fun _ => ?_)
set_option maxHeartbeats 8000000 in
set_option maxRecDepth 100000 in
theorem flotillaref0_CopyLabels.calls (k : Nat) (A0 : Option Addr) (c0 : Nat) (l0 : List (S39)) (r : List (S39)) (w : World) (hr0 : Kd.C k39 w A0 l0.length l0) (hc0 : l0.length ≤ c0) (h : flotillaref0_CopyLabels.f k l0 = some r) :
    Calls Tryd.prog 19 #[.slice A0 l0.length c0] w fun e w' => ∃ v0_ : Value, e = .returned (v0_) ∧ Kd.R k39 39 w' w.heap.size (fun _ => True) v0_ r ∧ Below w.heap.size w w' := by
  have hu39 := Tryd.underlying39
  have HR0 := Aside0.mk hr0
  have HC0 := Aside0.mk hc0
  clear hr0 hc0
  have HB := Aside0.mk (Below.refl w.heap.size w)
  have H : (flotillaref0_CopyLabels.l0 k l0 ([] : List (S39)) 0) = some r := h
  clear h
  have H' := Aside0.mk H
  clear H
  go_enter Tryd.func19, Tryd.ntmps19
  go_wp2
  go_loopg [3, 4] k (fun kq v3 v4 w' => ∃ (x3_1 : List (S39)) (x4_1 : Int), v4 = .int .i64 x4_1 ∧ Aside0 (flotillaref0_CopyLabels.l0 kq l0 x3_1 x4_1 = some r) ∧ Aside0 (kq ≤ k) ∧ Aside0 (Kd.R k39 39 w' w.heap.size (fun _ => True) v3 x3_1) ∧ Aside0 (Below w.heap.size w w'))
  case atStart => exact ⟨(([] : List (S39))), (0), (by first | rfl | (simp; done) | (simp [*]; done)), H', ⟨Nat.le_refl _⟩, ⟨by first | exact Kd.R_nil _ _ _ _ _ | exact Kd.N_nil _ _ _ _ _ | exact Kd.V_nil _ _ _ _ _ | exact Kd.Q_nil _ _ _ _ _ | exact Kd.S_nil _ _ _ _ _⟩, ⟨by repeat (first | (with_reducible first | exact HB.out | apply below_alloc | apply pw_below_drewN | apply below_drew1) | exact HB.out)⟩⟩
  case round =>
    clear H'
    try clear c1
    obtain ⟨x3_1, x4_1, rfl, HA, HK1, HO_3, HB⟩ := hrel
    cases gk with
    | zero => exact absurd HA.out (by simp [flotillaref0_CopyLabels.l0])
    | succ k1 =>
      have H := HA.out
      clear HA
      simp only [flotillaref0_CopyLabels.l0] at H
      by_cases c2 : x4_1 < (l0.length : Int)
      · rw [if_pos c2] at H
        have c2b0 : decide (x4_1 < (l0.length : Int)) = true := decide_eq_true c2
        clear c2
        by_cases c3 : 0 ≤ x4_1
        · rw [if_pos c3] at H
          have c3b0 : decide (0 ≤ x4_1) = true := decide_eq_true c3
          clear c3
          by_cases c4 : x3_1.length < 4398046511104
          · rw [if_pos c4] at H
            have LMc4 := Aside0.mk c4
            clear c4
            obtain ⟨y103, hy103⟩ : ∃ y_ : List (S39), y_ = (x3_1 ++ [(⟨(rd_T39 l0 x4_1).f0, (rd_T39 l0 x4_1).f1⟩ : S39)]) := ⟨_, rfl⟩
            replace H : (flotillaref0_CopyLabels.l0 k1 l0 y103 (wrap64 (x4_1 + 1))) = some r := by first | (rw [hy103]; with_reducible exact H) | (have H2_ := (Option.bind_some _ _).symm.trans H; rw [hy103]; with_reducible exact H2_) | (have H2_ := (Option.bind_some _ _).symm.trans H; with_reducible exact H2_) | with_reducible exact H | (rw [hy103]; exact H) | exact H
            have Ny103 := Aside0.mk hy103
            clear hy103
            have H' := Aside0.mk H
            clear H
            have p102 : 0 ≤ (x4_1 : Int) := of_decide_eq_true (by first | (with_reducible assumption) | assumption)
            have q102 : x4_1 < (l0.length : Int) := of_decide_eq_true (by first | (with_reducible assumption) | assumption)
            obtain ⟨ad102, e102, hx102_0, hx102_1⟩ := at_T39 HR0.out x4_1 p102 q102
            cases e102
            replace hx102_0 := (HB.out.cell (World.block_lt_of_cell? w _ hx102_0)).trans hx102_0
            replace hx102_1 := (HB.out.cell (World.block_lt_of_cell? w _ hx102_1)).trans hx102_1
            replace p102 := eq_true p102
            replace q102 := eq_true q102
            go_wp2_with (first | ((with_reducible refine gate_builtin (b := .append) (xs := #[.tmp 11, .tmp 16]) rfl ?_); at_builtin; refine Kd.R_append k39 (w0 := w) w.heap.size rfl (.tmp 11) (.tmp 16) 40 39 (.agg #[(.string ⟨#[]⟩), (.string ⟨#[]⟩)]) 32 rfl Tryd.underlying40 info39 rfl (by decide) (by omega) u3 x3_1 (⟨(rd_T39 l0 x4_1).f0, (rd_T39 l0 x4_1).f1⟩ : S39) [.string ((rd_T39 l0 x4_1).f0), .string ((rd_T39 l0 x4_1).f1)] (fun _ => True) (fun _ => False) rfl rfl ?aP (fun _ hk => hk.elim) ?aF ?aO ?aB ?aS ?aL ?_; (case aP => exact k39_mkM _ _ _ (⟨(rd_T39 l0 x4_1).f0, (rd_T39 l0 x4_1).f1⟩ : S39)); (case aB => exact (by repeat (first | (with_reducible first | exact HB.out | apply below_alloc | apply pw_below_drewN | apply below_drew1) | exact HB.out))); (case aF => exact (fun _ _ => trivial)); (case aO => exact (by (with_reducible repeat (first | apply Kd.R_alloc | apply Kd.R_drewN | apply Kd.R_drew)); exact HO_3.out)); (case aS => exact (below_size (by repeat (first | (with_reducible first | exact HB.out | apply below_alloc | apply pw_below_drewN | apply below_drew1) | exact HB.out)))); (case aL => have := LMc4.out; omega); intro v104 w5 ho hb hg hat; rw [← Ny103.out] at ho; have n0_ := Aside0.mk (hb); have n1_ := Aside0.mk (ho); clear HB; clear HO_3; have HB := n0_; have HO105 := n1_; clear n0_ n1_; clear ho hb hg hat))
            go_roundg k1
            case measure => have := HK1.out; omega
            case rel => exact ⟨(y103), (wrap64 (x4_1 + 1)), (by first | rfl | (simp; done) | (simp [*]; done)), H', ⟨by have := HK1.out; omega⟩, ⟨by (with_reducible repeat (first | apply Kd.R_alloc | apply Kd.R_drewN | apply Kd.R_drew)); exact HO105.out⟩, ⟨by repeat (first | (with_reducible first | exact HB.out | apply below_alloc | apply pw_below_drewN | apply below_drew1) | exact HB.out)⟩⟩
          · rw [if_neg c4] at H
            exact absurd H (by simp)
        · rw [if_neg c3] at H
          exact absurd H (by simp)
      · rw [if_neg c2] at H
        have c2b0 : decide (x4_1 < (l0.length : Int)) = false := decide_eq_false c2
        clear c2
        obtain rfl := Option.some.inj H
        go_wp2
        go_ret
        exact ⟨_, by first | rfl | (simp [errW_none, errW_some] <;> rfl) | (simp [*, errW_none, errW_some] <;> rfl), by (with_reducible repeat (first | apply Kd.R_alloc | apply Kd.R_drewN | apply Kd.R_drew)); exact HO_3.out, by repeat (first | (with_reducible first | exact HB.out | apply below_alloc | apply pw_below_drewN | apply below_drew1) | exact HB.out)⟩

end Go.Proofs.YtalkodandfjkmaaDoor.Print
