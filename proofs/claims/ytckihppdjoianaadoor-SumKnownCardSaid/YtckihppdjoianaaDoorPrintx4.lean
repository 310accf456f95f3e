/- The functions below as plain Lean functions, each with the proof that the calls come to it; written by a program over the kit's print. -/
import Derived.Test.YtckihppdjoianaaDoorPrintx0
import Derived.Test.YtckihppdjoianaaDoorPrintx1
import Derived.Test.YtckihppdjoianaaDoorPrintx3
namespace Go.Proofs.YtckihppdjoianaaDoor.Print
open Go.RowKit Go.Proofs.YtckihppdjoianaaDoorW.PrintWords Go.Proofs.YtckihppdjoianaaDoorW.PrintLast Go.Proofs.YtckihppdjoianaaDoorW.PrintMore
attribute [local go_sem] max2_int min2_int max_two min_two max_three min_three max_four min_four   -- for this text's walks alone
set_option linter.unusedVariables false
set_option linter.unusedSimpArgs false

/-! ### flotillakit_KeptBytes: function 23 -/
/-- Is the lent list as it was, its spare room too? -/
theorem flotillakit_KeptBytes.kept (k : Nat) (ad : Addr) (c0 : Nat) (full : List Int) (A1 : Option Addr) (c1 : Nat) (l1 : List Int) (r : Bool) (w : World) (hr0 : Kd.C (Kd.int .u8) w (some ad) full.length full) (hc0 : full.length ≤ c0)
    (hr1 : Kd.C (Kd.int .u8) w A1 l1.length l1) (hc1 : l1.length ≤ c1) (hn : full.length = l1.length + 16) (h : flotillakit_KeptFullBytes.f k full l1 = some r) :
    Calls Tryd.prog 23 #[.slice (some ad) l1.length c0, .slice A1 l1.length c1] w fun e w' => e = .returned (.bool r) ∧ Drawn0 w w' := by
  have hm := Kd.C_max hr0
  have C := fun w hr0 hr1 => flotillakit_KeptFullBytes.calls k (some ad) c0 full A1 c1 l1 r w hr0 hc0 hr1 hc1 h
  rw [hn] at hr0 C hc0 hm
  have HR0 := Lib.hid hr0
  have HR1 := Lib.hid hr1
  clear hr0 hr1
  go_enter Tryd.func23, Tryd.ntmps23
  go_wp2_with fail
  refine (C _ HR0.out HR1.out).mono ?_
  rintro e w' ⟨rfl, hd⟩
  go_wp2_with fail
  go_ret
  exact ⟨rfl, hd⟩

/-! ### flotillalaw04_SumCounted: function 11 -/
/-- What the law's parts say, together. -/
def flotillalaw04_SumCounted.f (k : Nat) (a0 : Int) (l1 : List Int) : Option Bool :=
  (flotillakit_FullBytes.f k l1).bind fun full => (sum_Of.f k l1).bind fun x => (sum_More.f k a0 l1).bind fun y => (flotillaref04_Of.f k l1).bind fun u => (flotillaref04_More.f k a0 l1).bind fun v => (flotillakit_KeptFullBytes.f k full l1).bind fun t =>
    if full.length = l1.length + 16 ∧ full.take l1.length = l1 ∧ x = u ∧ y = v ∧ t = true then some true else none
theorem flotillalaw04_SumCounted.mono : ∀ a0 a1 k, LeO (flotillalaw04_SumCounted.f k a0 a1) (flotillalaw04_SumCounted.f (k + 1) a0 a1) := by
  intro a0 a1 k
  unfold flotillalaw04_SumCounted.f
  repeat' first
      | (with_reducible exact flotillakit_FullBytes.mono _ _)
      | (with_reducible exact sum_Of.mono _ _)
      | (with_reducible exact sum_More.mono _ _ _)
      | (with_reducible exact flotillaref04_Of.mono _ _)
      | (with_reducible exact flotillaref04_More.mono _ _ _)
      | (with_reducible exact flotillakit_KeptFullBytes.mono _ _ _)
      | (with_reducible exact LeO.refl _)
      | (with_reducible exact LeO.none _)
      | (with_reducible refine LeO.ite ?_ ?_)
      | (with_reducible refine LeO.bind ?_ (fun _ => ?_))
      | exact flotillakit_FullBytes.mono _ _
      | exact sum_Of.mono _ _
      | exact sum_More.mono _ _ _
      | exact flotillaref04_Of.mono _ _
      | exact flotillaref04_More.mono _ _ _
      | exact flotillakit_KeptFullBytes.mono _ _ _
      | exact LeO.none _
      | refine LeO.ite ?_ ?_
      | refine LeO.bind ?_ (fun _ => ?_)
set_option maxRecDepth 100000 in
theorem flotillalaw04_SumCounted.calls (k : Nat) (a0 : Int) (A1 : Option Addr) (c1 : Nat) (l1 : List Int) (r : Bool) (w : World) (hr1 : Kd.C (Kd.int .u8) w A1 l1.length l1) (hc1 : l1.length ≤ c1) (h : flotillalaw04_SumCounted.f k a0 l1 = some r) :
    Calls Tryd.prog 11 #[.int .u32 a0, .slice A1 l1.length c1] w fun e w' => e = .returned (.bool r) ∧ Below w.heap.size w w' := by
  unfold flotillalaw04_SumCounted.f at h
  obtain ⟨full, hfull, h⟩ := Option.bind_eq_some_iff.mp h
  obtain ⟨x, hx, h⟩ := Option.bind_eq_some_iff.mp h
  obtain ⟨y, hy, h⟩ := Option.bind_eq_some_iff.mp h
  obtain ⟨u, hu, h⟩ := Option.bind_eq_some_iff.mp h
  obtain ⟨v, hv, h⟩ := Option.bind_eq_some_iff.mp h
  obtain ⟨t, ht, h⟩ := Option.bind_eq_some_iff.mp h
  by_cases hc : full.length = l1.length + 16 ∧ full.take l1.length = l1 ∧ x = u ∧ y = v ∧ t = true
  · rw [if_pos hc] at h
    obtain rfl := Option.some.inj h
    obtain ⟨hn, htk, rfl, rfl, rfl⟩ := hc
    have HN := Lib.hid hn
    have HT := Lib.hid htk
    have HR1 := Lib.hid hr1
    clear hr1 hn htk
    go_enter Tryd.func11, Tryd.ntmps11
    go_wp2_with fail
    refine (flotillakit_LentBytes.lent k _ _ l1 full _ HR1.out hc1 HN.out hfull).mono ?_
    rintro e w1 ⟨ad, c, rfl, hc, hr, hbk, hb⟩
    have HR := Lib.hid hr
    have HY := Lib.hid (show Kd.C (Kd.int .u8) w1 (some ad) l1.length l1 by
      have h1 := Kd.C_take (m := l1.length) hr (by have := HN.out; omega)
      rw [HT.out] at h1
      exact h1)
    have hle : l1.length ≤ c := by have := HN.out; omega
    clear hr
    have H1 := Lib.hid (Kd.C_below HR1.out hb)
    go_wp2_with fail
    refine (sum_Of.calls k _ _ l1 x _ HY.out hle hx).mono ?_
    rintro e w2 ⟨rfl, hd2⟩
    have b2 := hd2.below
    clear hd2
    go_wp2_with fail
    refine (sum_More.calls k a0 _ _ l1 y _ (Kd.C_below HY.out b2) hle hy).mono ?_
    rintro e w3 ⟨rfl, hd3⟩
    have b3 := below_step b2 hd3.below
    clear hd3
    go_wp2_with fail
    refine (flotillaref04_Of.calls k _ _ l1 x _ (Kd.C_below H1.out b3) hc1 hu).mono ?_
    rintro e w4 ⟨rfl, hd4⟩
    have b4 := below_step b3 hd4.below
    clear hd4
    go_wp2_with fail
    refine (flotillaref04_More.calls k a0 _ _ l1 y _ (Kd.C_below H1.out b4) hc1 hv).mono ?_
    rintro e w5 ⟨rfl, hd5⟩
    have b5 := below_step b4 hd5.below
    clear hd5
    go_wp2_with fail
    refine (flotillakit_KeptBytes.kept k ad c full _ _ l1 true _ (Kd.C_below HR.out b5) hc (Kd.C_below H1.out b5) hc1 HN.out ht).mono ?_
    rintro e w6 ⟨rfl, hd6⟩
    have b6 := below_step b5 hd6.below
    clear hd6
    go_wp2_with fail
    go_ret
    exact ⟨rfl, below_step hb b6⟩
  · rw [if_neg hc] at h
    cases h

/-! ### flotillakit_Bytes: function 9 -/
def flotillakit_Bytes.l0 : Nat → ByteArray → List Int → Int → Option (List Int)
  | 0, _, _, _ => none
  | k + 1, x0, x3, x4 => if x4 < (x0.size : Int) then (if 0 ≤ x4 then (if x3.length < 140737488355328 then (flotillakit_Bytes.l0 k x0 (x3 ++ [bt x0 x4]) (wrap64 (x4 + 1))) else (none)) else (none)) else (some x3)
def flotillakit_Bytes.f (k : Nat) (a0 : ByteArray) : Option (List Int) := flotillakit_Bytes.l0 k a0 ([] : List Int) 0
theorem flotillakit_Bytes.mono_l : ∀ k, (∀ y0 y1 y2, LeO (flotillakit_Bytes.l0 k y0 y1 y2) (flotillakit_Bytes.l0 (k + 1) y0 y1 y2))
  | 0 => fun _ _ _ r h => by simp [flotillakit_Bytes.l0] at h
  | k + 1 => by
    have ih0 := flotillakit_Bytes.mono_l k
    · intro y0 y1 y2
      unfold flotillakit_Bytes.l0
      repeat' first
      | (with_reducible exact ih0 _ _ _)
      | (with_reducible exact LeO.refl _)
      | (with_reducible exact LeO.none _)
      | (with_reducible refine LeO.ite ?_ ?_)
      | (with_reducible refine LeO.bind ?_ (fun _ => ?_))
      | exact ih0 _ _ _
      | exact LeO.none _
      | refine LeO.ite ?_ ?_
      | refine LeO.bind ?_ (fun _ => ?_)
theorem flotillakit_Bytes.mono : ∀ a0 k, LeO (flotillakit_Bytes.f k a0) (flotillakit_Bytes.f (k + 1) a0) := by
  intro a0 k
  have ih0 := flotillakit_Bytes.mono_l k
  unfold flotillakit_Bytes.f
  repeat' first
      | (with_reducible exact ih0 _ _ _)
      | (with_reducible exact LeO.refl _)
      | (with_reducible exact LeO.none _)
      | (with_reducible refine LeO.ite ?_ ?_)
      | (with_reducible refine LeO.bind ?_ (fun _ => ?_))
      | exact ih0 _ _ _
      | exact LeO.none _
      | refine LeO.ite ?_ ?_
      | refine LeO.bind ?_ (fun _ => ?_)
set_option maxHeartbeats 8000000 in
set_option maxRecDepth 100000 in
theorem flotillakit_Bytes.calls (k : Nat) (a0 : ByteArray) (r : List Int) (w : World) (h : flotillakit_Bytes.f k a0 = some r) :
    Calls Tryd.prog 9 #[.string a0] w fun e w' => ∃ v0_ : Value, e = .returned (v0_) ∧ Kd.R (Kd.int .u8) 5 w' w.heap.size (fun _ => True) v0_ r ∧ Below w.heap.size w w' := by
  have HB := Aside0.mk (Below.refl w.heap.size w)
  have H : (flotillakit_Bytes.l0 k a0 ([] : List Int) 0) = some r := h
  clear h
  have H' := Aside0.mk H
  clear H
  go_enter Tryd.func9, Tryd.ntmps9
  go_wp2
  go_loopg [3, 4] k (fun kq v3 v4 w' => ∃ (x3_1 : List Int) (x4_1 : Int), v4 = .int .i64 x4_1 ∧ Aside0 (flotillakit_Bytes.l0 kq a0 x3_1 x4_1 = some r) ∧ Aside0 (kq ≤ k) ∧ Aside0 (Kd.R (Kd.int .u8) 5 w' w.heap.size (fun _ => True) v3 x3_1) ∧ Aside0 (Below w.heap.size w w'))
  case atStart => exact ⟨(([] : List Int)), (0), (by first | rfl | (simp; done) | (simp [*]; done)), H', ⟨Nat.le_refl _⟩, ⟨by first | exact Kd.R_nil _ _ _ _ _ | exact Kd.N_nil _ _ _ _ _ | exact Kd.V_nil _ _ _ _ _ | exact Kd.Q_nil _ _ _ _ _ | exact Kd.S_nil _ _ _ _ _⟩, ⟨by repeat (first | (with_reducible first | exact HB.out | apply below_alloc | apply pw_below_drewN | apply below_drew1) | exact HB.out)⟩⟩
  case round =>
    clear H'
    obtain ⟨x3_1, x4_1, rfl, HA, HK1, HO_3, HB⟩ := hrel
    cases gk with
    | zero => exact absurd HA.out (by simp [flotillakit_Bytes.l0])
    | succ k1 =>
      have H := HA.out
      clear HA
      simp only [flotillakit_Bytes.l0] at H
      by_cases c2 : x4_1 < (a0.size : Int)
      · rw [if_pos c2] at H
        have c2b0 : decide (x4_1 < (a0.size : Int)) = true := decide_eq_true c2
        clear c2
        by_cases c3 : 0 ≤ x4_1
        · rw [if_pos c3] at H
          have c3b0 : decide (0 ≤ x4_1) = true := decide_eq_true c3
          clear c3
          by_cases c5 : x3_1.length < 140737488355328
          · rw [if_pos c5] at H
            have LMc5 := Aside0.mk c5
            clear c5
            obtain ⟨y132, hy132⟩ : ∃ y_ : List Int, y_ = (x3_1 ++ [bt a0 x4_1]) := ⟨_, rfl⟩
            replace H : (flotillakit_Bytes.l0 k1 a0 y132 (wrap64 (x4_1 + 1))) = some r := by first | (rw [hy132]; with_reducible exact H) | (have H2_ := (Option.bind_some _ _).symm.trans H; rw [hy132]; with_reducible exact H2_) | (have H2_ := (Option.bind_some _ _).symm.trans H; with_reducible exact H2_) | with_reducible exact H | (rw [hy132]; exact H) | exact H
            have Ny132 := Aside0.mk hy132
            clear hy132
            have H' := Aside0.mk H
            clear H
            have p4 : 0 ≤ (x4_1 : Int) := of_decide_eq_true (by first | (with_reducible assumption) | assumption)
            have q4 : x4_1 < (a0.size : Int) := of_decide_eq_true (by first | (with_reducible assumption) | assumption)
            have hx4 := bt_at a0 x4_1
            replace p4 := eq_true p4
            replace q4 := eq_true q4
            go_wp2_with (first | ((with_reducible refine gate_builtin (b := .append) (xs := #[.tmp 11, .tmp 15]) rfl ?_); at_builtin; refine Kd.R_append (Kd.int .u8) (w0 := w) w.heap.size rfl (.tmp 11) (.tmp 15) 31 5 (.int .u8 0) 1 rfl Tryd.underlying31 info5 rfl (by decide) (by omega) u3 x3_1 (bt a0 x4_1) [.int .u8 (bt a0 x4_1)] (fun _ => True) (fun _ => False) rfl rfl ?aP (fun _ hk => hk.elim) ?aF ?aO ?aB ?aS ?aL ?_; (case aP => exact rfl); (case aB => exact (by repeat (first | (with_reducible first | exact HB.out | apply below_alloc | apply pw_below_drewN | apply below_drew1) | exact HB.out))); (case aF => exact (fun _ _ => trivial)); (case aO => exact (by (with_reducible repeat (first | apply Kd.R_alloc | apply Kd.R_drewN | apply Kd.R_drew)); exact HO_3.out)); (case aS => exact (below_size (by repeat (first | (with_reducible first | exact HB.out | apply below_alloc | apply pw_below_drewN | apply below_drew1) | exact HB.out)))); (case aL => have := LMc5.out; omega); intro v133 w6 ho hb hg hat; rw [← Ny132.out] at ho; have n0_ := Aside0.mk (hb); have n1_ := Aside0.mk (ho); clear HB; clear HO_3; have HB := n0_; have HO134 := n1_; clear n0_ n1_; clear ho hb hg hat))
            go_roundg k1
            case measure => have := HK1.out; omega
            case rel => exact ⟨(y132), (wrap64 (x4_1 + 1)), (by first | rfl | (simp; done) | (simp [*]; done)), H', ⟨by have := HK1.out; omega⟩, ⟨by (with_reducible repeat (first | apply Kd.R_alloc | apply Kd.R_drewN | apply Kd.R_drew)); exact HO134.out⟩, ⟨by repeat (first | (with_reducible first | exact HB.out | apply below_alloc | apply pw_below_drewN | apply below_drew1) | exact HB.out)⟩⟩
          · rw [if_neg c5] at H
            exact absurd H (by simp)
        · rw [if_neg c3] at H
          exact absurd H (by simp)
      · rw [if_neg c2] at H
        have c2b0 : decide (x4_1 < (a0.size : Int)) = false := decide_eq_false c2
        clear c2
        obtain rfl := Option.some.inj H
        go_wp2
        go_ret
        exact ⟨_, by first | rfl | (simp [errW_none, errW_some] <;> rfl) | (simp [*, errW_none, errW_some] <;> rfl), by (with_reducible repeat (first | apply Kd.R_alloc | apply Kd.R_drewN | apply Kd.R_drew)); exact HO_3.out, by repeat (first | (with_reducible first | exact HB.out | apply below_alloc | apply pw_below_drewN | apply below_drew1) | exact HB.out)⟩

/-! ### flotillalaw04_works: function 10 -/
def flotillalaw04_works.f (k : Nat)  : Option (Bool) := (flotillakit_Bytes.f k (⟨#[49, 50, 51, 52, 53, 54, 55, 56, 57]⟩ : ByteArray)).bind fun t135 => ((sum_Of.f k t135).bind fun t138 => (if t138 = 3808858755 then ((sum_Of.f k ([] : List Int)).bind fun t139 => (some (t139 == 0))) else (some false)))
theorem flotillalaw04_works.mono : ∀ k, LeO (flotillalaw04_works.f k ) (flotillalaw04_works.f (k + 1) ) := by
  intro  k
  unfold flotillalaw04_works.f
  repeat' first
      | (with_reducible exact flotillakit_Bytes.mono _ _)
      | (with_reducible exact sum_Of.mono _ _)
      | (with_reducible exact LeO.refl _)
      | (with_reducible exact LeO.none _)
      | (with_reducible refine LeO.ite ?_ ?_)
      | (with_reducible refine LeO.bind ?_ (fun _ => ?_))
      | exact flotillakit_Bytes.mono _ _
      | exact sum_Of.mono _ _
      | exact LeO.none _
      | refine LeO.ite ?_ ?_
      | refine LeO.bind ?_ (fun _ => ?_)
set_option maxHeartbeats 8000000 in
set_option maxRecDepth 100000 in
theorem flotillalaw04_works.calls (k : Nat)  (r : Bool) (w : World) (h : flotillalaw04_works.f k  = some r) :
    Calls Tryd.prog 10 #[] w fun e w' => e = .returned (.bool r) ∧ Below w.heap.size w w' := by
  have HB := Aside0.mk (Below.refl w.heap.size w)
  have H : ((flotillakit_Bytes.f k (⟨#[49, 50, 51, 52, 53, 54, 55, 56, 57]⟩ : ByteArray)).bind fun t135 => ((sum_Of.f k t135).bind fun t138 => (if t138 = 3808858755 then ((sum_Of.f k ([] : List Int)).bind fun t139 => (some (t139 == 0))) else (some false)))) = some r := h
  clear h
  replace H := Option.bind_eq_some_iff.mp H
  obtain ⟨t135, A10, H⟩ := H
  replace H : ((sum_Of.f k t135).bind fun t138 => (if t138 = 3808858755 then ((sum_Of.f k ([] : List Int)).bind fun t139 => (some (t139 == 0))) else (some false))) = some r := H
  have A1 := Aside0.mk A10
  clear A10
  replace H := Option.bind_eq_some_iff.mp H
  obtain ⟨t138, A20, H⟩ := H
  replace H : (if t138 = 3808858755 then ((sum_Of.f k ([] : List Int)).bind fun t139 => (some (t139 == 0))) else (some false)) = some r := H
  have A2 := Aside0.mk A20
  clear A20
  by_cases c3 : t138 = 3808858755
  · rw [if_pos c3] at H
    have c3b0 : (t138 == 3808858755) = true := beq_iff_eq.mpr c3
    have c3b1 : (t138 != 3808858755) = false := bne_eq_false_iff_eq.mpr c3
    clear c3
    replace H := Option.bind_eq_some_iff.mp H
    obtain ⟨t139, A40, H⟩ := H
    replace H : (some (t139 == 0)) = some r := H
    have A4 := Aside0.mk A40
    clear A40
    obtain rfl := Option.some.inj H
    go_enter Tryd.func10, Tryd.ntmps10
    go_wp2_with (first | ((with_reducible refine gate_callee (f := 9) rfl ?_); refine goesL_ (some 1) rfl rfl Tryd.func9 (by kernel_rfl) rfl #[.string (⟨#[49, 50, 51, 52, 53, 54, 55, 56, 57]⟩ : ByteArray)] rfl (by (try simp only [List.map_toArray, List.map_cons, List.map_nil]); first | done | rfl | (simp only [List.length_drop, List.length_take]; rfl)) ?_; (with_reducible refine (flotillakit_Bytes.calls k (⟨#[49, 50, 51, 52, 53, 54, 55, 56, 57]⟩ : ByteArray) t135 _ A1.out).mono ?_); rintro e w5 ⟨v136, rfl, ho0, hb⟩; refine ⟨_, rfl, ?_⟩; have n0_ := Aside0.mk (Kd.R_lower ho0 (below_size (by repeat (first | (with_reducible first | exact HB.out | apply below_alloc | apply pw_below_drewN | apply below_drew1) | exact HB.out)))); have n1_ := Aside0.mk (below_step (by repeat (first | (with_reducible first | exact HB.out | apply below_alloc | apply pw_below_drewN | apply below_drew1) | exact HB.out)) hb); clear HB; have HO137 := n0_; have HB := n1_; clear n0_ n1_; (try clear hb); (try clear hb2); (try clear hk); (try clear hi); (try clear ho0); obtain ⟨Ao6, co6, eo6⟩ := Kd.R_slice HO137.out; subst eo6) | ((with_reducible refine gate_callee (f := 8) rfl ?_); refine goesL_ (some 2) rfl rfl Tryd.func8 (by kernel_rfl) rfl #[.slice Ao6 t135.length co6] rfl (by (try simp only [List.map_toArray, List.map_cons, List.map_nil]); first | done | rfl | (simp only [List.length_drop, List.length_take]; rfl)) ?_; (with_reducible refine (sum_Of.calls k _ _ t135 t138 _ ?side1 ?side2 A2.out).mono ?_); (case side1 => repeat (first | exact (Kd.R_reads' HO137.out).2.2 | (with_reducible refine Kd.C_alloc ?_ _) | (with_reducible refine Kd.C_drewN ?_ _) | (with_reducible refine Kd.C_drew ?_))); (case side2 => exact (Kd.R_reads' HO137.out).2.1); rintro e w' ⟨rfl, ⟨nd, rfl⟩⟩; refine ⟨_, rfl, ?_⟩) | (go_at_call 8; (refine (sum_Of.calls k _ _ ([] : List Int) t139 _ ?side1 ?side2 A4.out).mono ?_); (case side1 => exact Kd.C_nil _ _); (case side2 => exact Nat.le_refl _); rintro e w' ⟨rfl, ⟨nd, rfl⟩⟩))
    go_ret
    exact ⟨by first | rfl | (simp [errW_none, errW_some] <;> rfl) | (simp [*, errW_none, errW_some] <;> rfl), by repeat (first | (with_reducible first | exact HB.out | apply below_alloc | apply pw_below_drewN | apply below_drew1) | exact HB.out)⟩
  · rw [if_neg c3] at H
    have c3b0 : (t138 == 3808858755) = false := beq_eq_false_iff_ne.mpr c3
    have c3b1 : (t138 != 3808858755) = true := bne_iff_ne.mpr c3
    obtain rfl := Option.some.inj H
    go_enter Tryd.func10, Tryd.ntmps10
    go_wp2_with (first | ((with_reducible refine gate_callee (f := 9) rfl ?_); refine goesL_ (some 1) rfl rfl Tryd.func9 (by kernel_rfl) rfl #[.string (⟨#[49, 50, 51, 52, 53, 54, 55, 56, 57]⟩ : ByteArray)] rfl (by (try simp only [List.map_toArray, List.map_cons, List.map_nil]); first | done | rfl | (simp only [List.length_drop, List.length_take]; rfl)) ?_; (with_reducible refine (flotillakit_Bytes.calls k (⟨#[49, 50, 51, 52, 53, 54, 55, 56, 57]⟩ : ByteArray) t135 _ A1.out).mono ?_); rintro e w7 ⟨v136, rfl, ho0, hb⟩; refine ⟨_, rfl, ?_⟩; have n0_ := Aside0.mk (Kd.R_lower ho0 (below_size (by repeat (first | (with_reducible first | exact HB.out | apply below_alloc | apply pw_below_drewN | apply below_drew1) | exact HB.out)))); have n1_ := Aside0.mk (below_step (by repeat (first | (with_reducible first | exact HB.out | apply below_alloc | apply pw_below_drewN | apply below_drew1) | exact HB.out)) hb); clear HB; have HO137 := n0_; have HB := n1_; clear n0_ n1_; (try clear hb); (try clear hb2); (try clear hk); (try clear hi); (try clear ho0); obtain ⟨Ao8, co8, eo8⟩ := Kd.R_slice HO137.out; subst eo8) | ((with_reducible refine gate_callee (f := 8) rfl ?_); refine goesL_ (some 2) rfl rfl Tryd.func8 (by kernel_rfl) rfl #[.slice Ao8 t135.length co8] rfl (by (try simp only [List.map_toArray, List.map_cons, List.map_nil]); first | done | rfl | (simp only [List.length_drop, List.length_take]; rfl)) ?_; (with_reducible refine (sum_Of.calls k _ _ t135 t138 _ ?side1 ?side2 A2.out).mono ?_); (case side1 => repeat (first | exact (Kd.R_reads' HO137.out).2.2 | (with_reducible refine Kd.C_alloc ?_ _) | (with_reducible refine Kd.C_drewN ?_ _) | (with_reducible refine Kd.C_drew ?_))); (case side2 => exact (Kd.R_reads' HO137.out).2.1); rintro e w' ⟨rfl, ⟨nd, rfl⟩⟩; refine ⟨_, rfl, ?_⟩))
    go_ret
    exact ⟨by first | rfl | (simp [errW_none, errW_some] <;> rfl) | (simp [*, errW_none, errW_some] <;> rfl), by repeat (first | (with_reducible first | exact HB.out | apply below_alloc | apply pw_below_drewN | apply below_drew1) | exact HB.out)⟩
theorem flotillalaw04_works.is (k : Nat) (hk : 40 ≤ k) : flotillalaw04_works.f k = some true := at_rounds flotillalaw04_works.mono hk (by decide +kernel)

/-! ### flotillakit_Pick: function 24 -/
def flotillakit_Pick.f (a0 : Int) (a1 : Int) : Option (Int) := if a1 < 1 then (some 0) else (if a1 = 0 then (none) else (if (Int.tmod a0 a1) < 0 then (some (wrap64 ((Int.tmod a0 a1) + a1))) else (some (Int.tmod a0 a1))))
set_option maxHeartbeats 8000000 in
set_option maxRecDepth 100000 in
theorem flotillakit_Pick.calls (a0 : Int) (a1 : Int) (r : Int) (w : World) (h : flotillakit_Pick.f a0 a1 = some r) :
    Calls Tryd.prog 24 #[.int .i64 a0, .int .i64 a1] w fun e w' => e = .returned (.int .i64 r) ∧ Drawn0 w w' := by
  have H : (if a1 < 1 then (some 0) else (if a1 = 0 then (none) else (if (Int.tmod a0 a1) < 0 then (some (wrap64 ((Int.tmod a0 a1) + a1))) else (some (Int.tmod a0 a1))))) = some r := h
  clear h
  by_cases c3 : a1 < 1
  · rw [if_pos c3] at H
    have c3b0 : decide (a1 < 1) = true := decide_eq_true c3
    clear c3
    obtain rfl := Option.some.inj H
    go_enter Tryd.func24, Tryd.ntmps24
    go_wp2
    go_ret
    exact ⟨by first | rfl | (simp; done) | (simp [*]; done), by repeat (first | exact Drawn0.refl _ | apply Drawn0.step)⟩
  · rw [if_neg c3] at H
    have c3b0 : decide (a1 < 1) = false := decide_eq_false c3
    clear c3
    by_cases c4 : a1 = 0
    · rw [if_pos c4] at H
      exact absurd H (by simp)
    · rw [if_neg c4] at H
      have c4b0 : (a1 == 0) = false := beq_eq_false_iff_ne.mpr c4
      have c4b1 : (a1 != 0) = true := bne_iff_ne.mpr c4
      by_cases c5 : (Int.tmod a0 a1) < 0
      · rw [if_pos c5] at H
        have c5b0 : decide ((Int.tmod a0 a1) < 0) = true := decide_eq_true c5
        clear c5
        obtain rfl := Option.some.inj H
        go_enter Tryd.func24, Tryd.ntmps24
        go_wp2
        go_ret
        exact ⟨by first | rfl | (simp; done) | (simp [*]; done), by repeat (first | exact Drawn0.refl _ | apply Drawn0.step)⟩
      · rw [if_neg c5] at H
        have c5b0 : decide ((Int.tmod a0 a1) < 0) = false := decide_eq_false c5
        clear c5
        obtain rfl := Option.some.inj H
        go_enter Tryd.func24, Tryd.ntmps24
        go_wp2
        go_ret
        exact ⟨by first | rfl | (simp; done) | (simp [*]; done), by repeat (first | exact Drawn0.refl _ | apply Drawn0.step)⟩
theorem flotillakit_Pick.spec (a n : Int) (h : 1 ≤ n) (hn : n ≤ 9223372036854775807) : flotillakit_Pick.f a n = some (a % n) := by
  unfold flotillakit_Pick.f
  rw [if_neg (by omega), if_neg (by omega)]
  have h1 := Int.emod_nonneg a (show n ≠ 0 by omega)
  have h2 := Int.emod_lt_of_pos a (show 0 < n by omega)
  have h3 := Int.tmod_eq_emod (a := a) (b := n)
  by_cases hc : 0 ≤ a ∨ n ∣ a
  · rw [if_pos hc] at h3
    rw [if_neg (by simp at h3; omega), h3]
    simp
  · rw [if_neg hc] at h3
    by_cases h5 : Int.tmod a n < 0
    · rw [if_pos h5, IntWalk.wrap64_in _ ⟨by omega, by omega⟩]
      congr 1
      omega
    · omega
theorem flotillakit_w.sub (n m : Nat) (h : m ≤ n) (hn : n < 9223372036854775808) : wrap64 ((n : Int) - (m : Int)) = ((n - m : Nat) : Int) := by rw [IntWalk.wrap64_in _ ⟨by omega, by omega⟩]; omega
theorem flotillakit_w.add (n m : Nat) (h : n + m < 9223372036854775808) : wrap64 ((n : Int) + (m : Int)) = ((n + m : Nat) : Int) := by rw [IntWalk.wrap64_in _ ⟨by omega, by omega⟩]; omega

/-! ### flotillalaw04_SumRows: function 12 -/
/-- What the law's parts say, together. -/
def flotillalaw04_SumRows.f (k : Nat) (l0 : List Int) (a1 : Int) : Option Bool :=
  (flotillakit_Pick.f a1 (wrap64 ((l0.length : Int) + 1))).bind fun t =>
    if 0 ≤ t ∧ t ≤ (l0.length : Int) then
      (sum_Of.f k (l0.take t.toNat)).bind fun x => (sum_Of.f k (l0.drop t.toNat)).bind fun y => (sum_Join.f x y (wrap64 ((l0.length : Int) - t))).bind fun z => (flotillalaw04_works.f k).bind fun o => (sum_Of.f k l0).bind fun u => (sum_More.f k x (l0.drop t.toNat)).bind fun v =>
        if z = (u, none) ∧ o = true ∧ v = u then some true else none
    else none
theorem flotillalaw04_SumRows.mono : ∀ a0 a1 k, LeO (flotillalaw04_SumRows.f k a0 a1) (flotillalaw04_SumRows.f (k + 1) a0 a1) := by
  intro a0 a1 k
  unfold flotillalaw04_SumRows.f
  repeat' first
      | (with_reducible exact sum_Of.mono _ _)
      | (with_reducible exact sum_More.mono _ _ _)
      | (with_reducible exact flotillalaw04_works.mono _)
      | (with_reducible exact LeO.refl _)
      | (with_reducible exact LeO.none _)
      | (with_reducible refine LeO.ite ?_ ?_)
      | (with_reducible refine LeO.bind ?_ (fun _ => ?_))
      | exact sum_Of.mono _ _
      | exact sum_More.mono _ _ _
      | exact flotillalaw04_works.mono _
      | exact LeO.none _
      | refine LeO.ite ?_ ?_
      | refine LeO.bind ?_ (fun _ => ?_)
set_option maxRecDepth 100000 in
theorem flotillalaw04_SumRows.calls (k : Nat) (A0 : Option Addr) (c0 : Nat) (l0 : List Int) (a1 : Int) (r : Bool) (w : World) (hr0 : Kd.C (Kd.int .u8) w A0 l0.length l0) (hc0 : l0.length ≤ c0) (h : flotillalaw04_SumRows.f k l0 a1 = some r) :
    Calls Tryd.prog 12 #[.slice A0 l0.length c0, .int .i64 a1] w fun e w' => e = .returned (.bool r) ∧ Below w.heap.size w w' := by
  unfold flotillalaw04_SumRows.f at h
  obtain ⟨t, ht, h⟩ := Option.bind_eq_some_iff.mp h
  by_cases hb : 0 ≤ t ∧ t ≤ (l0.length : Int)
  · rw [if_pos hb] at h
    obtain ⟨x, hx, h⟩ := Option.bind_eq_some_iff.mp h
    obtain ⟨y, hy, h⟩ := Option.bind_eq_some_iff.mp h
    obtain ⟨z, hz, h⟩ := Option.bind_eq_some_iff.mp h
    obtain ⟨o, ho, h⟩ := Option.bind_eq_some_iff.mp h
    obtain ⟨u, hu, h⟩ := Option.bind_eq_some_iff.mp h
    obtain ⟨v, hv, h⟩ := Option.bind_eq_some_iff.mp h
    by_cases hc : z = (u, none) ∧ o = true ∧ v = u
    · rw [if_pos hc] at h
      obtain rfl := Option.some.inj h
      obtain ⟨rfl, rfl, rfl⟩ := hc
      obtain ⟨hb0, hb1⟩ := hb
      obtain ⟨i0, hi0, _, hsz, _⟩ := info_parts info5
      obtain ⟨hcutT, hAT, hCT⟩ := print_take_of (P := Tryd.prog) (Value.int .u8) 0 31 5 .i64 Tryd.underlying31 hi0 hsz A0 c0 l0 t hb0 hb1 hc0
      obtain ⟨A2, hcutD, hAD, hCD⟩ := print_drop_of (P := Tryd.prog) (Value.int .u8) 0 31 5 .i64 Tryd.underlying31 hi0 hsz A0 c0 l0 t hb0 hb1 hc0
      have HRT := Lib.hid (Kd.C_of_reads (h1 := fun _ => rfl) (hAT _ (Kd.reads_of_C hr0)))
      have HRD := Lib.hid (Kd.C_of_reads (h1 := fun _ => rfl) (hAD _ (Kd.reads_of_C hr0)))
      have HR := Lib.hid hr0
      clear hAT hAD hr0 hsz hi0
      go_enter Tryd.func12, Tryd.ntmps12
      go_wp2_with fail
      refine (flotillakit_Pick.calls _ _ t _ ht).mono ?_
      rintro e w1 ⟨rfl, hd1⟩
      have b1 := hd1.below
      clear hd1
      go_wp2_with fail
      have C1 := sum_Of.calls k _ _ _ x _ (Kd.C_below HRT.out b1) hCT hx
      rw [show (l0.take t.toNat).length = t.toNat by rw [List.length_take]; omega] at C1
      refine C1.mono ?_
      rintro e w2 ⟨rfl, hd2⟩
      have b2 := below_step b1 hd2.below
      clear hd2 b1 C1
      go_wp2_with fail
      have C2 := sum_Of.calls k _ _ _ y _ (Kd.C_below HRD.out b2) hCD hy
      rw [List.length_drop] at C2
      refine C2.mono ?_
      rintro e w3 ⟨rfl, hd3⟩
      have b3 := below_step b2 hd3.below
      clear hd3 b2 C2
      go_wp2_with fail
      refine (sum_Join.calls _ _ _ v none _ hz).mono ?_
      rintro e w4 ⟨rfl, hd4⟩
      have b4 := below_step b3 hd4
      clear hd4 b3
      simp only [errW_none]
      go_wp2_with fail
      refine (flotillalaw04_works.calls k true _ ho).mono ?_
      rintro e w5 ⟨rfl, hd5⟩
      have b5 := below_step b4 hd5
      clear hd5 b4
      go_wp2_with fail
      refine (sum_Of.calls k _ _ _ v _ (Kd.C_below HR.out b5) hc0 hu).mono ?_
      rintro e w6 ⟨rfl, hd6⟩
      have b6 := below_step b5 hd6.below
      clear hd6 b5
      go_wp2_with fail
      have C7 := sum_More.calls k x _ _ _ v _ (Kd.C_below HRD.out b6) hCD hv
      rw [List.length_drop] at C7
      refine C7.mono ?_
      rintro e w7 ⟨rfl, hd7⟩
      have b7 := below_step b6 hd7.below
      clear hd7 b6
      go_wp2_with fail
      go_ret
      exact ⟨by simp, b7⟩
    · rw [if_neg hc] at h
      cases h
  · rw [if_neg hb] at h
    cases h

/-! ### flotillaref0_CopyBytes: function 25 -/
def flotillaref0_CopyBytes.l0 : Nat → List Int → List Int → Int → Option (List Int)
  | 0, _, _, _ => none
  | k + 1, x0, x3, x4 => if x4 < (x0.length : Int) then (if 0 ≤ x4 then (if x3.length < 140737488355328 then (flotillaref0_CopyBytes.l0 k x0 (x3 ++ [rd x0 x4]) (wrap64 (x4 + 1))) else (none)) else (none)) else (some x3)
def flotillaref0_CopyBytes.f (k : Nat) (l0 : List Int) : Option (List Int) := flotillaref0_CopyBytes.l0 k l0 ([] : List Int) 0
theorem flotillaref0_CopyBytes.mono_l : ∀ k, (∀ y0 y1 y2, LeO (flotillaref0_CopyBytes.l0 k y0 y1 y2) (flotillaref0_CopyBytes.l0 (k + 1) y0 y1 y2))
  | 0 => fun _ _ _ r h => by simp [flotillaref0_CopyBytes.l0] at h
  | k + 1 => by
    have ih0 := flotillaref0_CopyBytes.mono_l k
    · intro y0 y1 y2
      unfold flotillaref0_CopyBytes.l0
      repeat' first
      | (with_reducible exact ih0 _ _ _)
      | (with_reducible exact LeO.refl _)
      | (with_reducible exact LeO.none _)
      | (with_reducible refine LeO.ite ?_ ?_)
      | (with_reducible refine LeO.bind ?_ (fun _ => ?_))
      | exact ih0 _ _ _
      | exact LeO.none _
      | refine LeO.ite ?_ ?_
      | refine LeO.bind ?_ (fun _ => ?_)
theorem flotillaref0_CopyBytes.mono : ∀ a0 k, LeO (flotillaref0_CopyBytes.f k a0) (flotillaref0_CopyBytes.f (k + 1) a0) := by
  intro a0 k
  have ih0 := flotillaref0_CopyBytes.mono_l k
  unfold flotillaref0_CopyBytes.f
  repeat' first
      | (with_reducible exact ih0 _ _ _)
      | (with_reducible exact LeO.refl _)
      | (with_reducible exact LeO.none _)
      | (with_reducible refine LeO.ite ?_ ?_)
      | (with_reducible refine LeO.bind ?_ (fun _ => ?_))
      | exact ih0 _ _ _
      | exact LeO.none _
      | refine LeO.ite ?_ ?_
      | refine LeO.bind ?_ (fun _ => ?_)
set_option maxHeartbeats 8000000 in
set_option maxRecDepth 100000 in
theorem flotillaref0_CopyBytes.calls (k : Nat) (A0 : Option Addr) (c0 : Nat) (l0 : List Int) (r : List Int) (w : World) (hr0 : Kd.C (Kd.int .u8) w A0 l0.length l0) (hc0 : l0.length ≤ c0) (h : flotillaref0_CopyBytes.f k l0 = some r) :
    Calls Tryd.prog 25 #[.slice A0 l0.length c0] w fun e w' => ∃ v0_ : Value, e = .returned (v0_) ∧ Kd.R (Kd.int .u8) 5 w' w.heap.size (fun _ => True) v0_ r ∧ Below w.heap.size w w' := by
  have HR0 := Aside0.mk hr0
  have HC0 := Aside0.mk hc0
  clear hr0 hc0
  have HB := Aside0.mk (Below.refl w.heap.size w)
  have H : (flotillaref0_CopyBytes.l0 k l0 ([] : List Int) 0) = some r := h
  clear h
  have H' := Aside0.mk H
  clear H
  go_enter Tryd.func25, Tryd.ntmps25
  go_wp2
  go_loopg [3, 4] k (fun kq v3 v4 w' => ∃ (x3_1 : List Int) (x4_1 : Int), v4 = .int .i64 x4_1 ∧ Aside0 (flotillaref0_CopyBytes.l0 kq l0 x3_1 x4_1 = some r) ∧ Aside0 (kq ≤ k) ∧ Aside0 (Kd.R (Kd.int .u8) 5 w' w.heap.size (fun _ => True) v3 x3_1) ∧ Aside0 (Below w.heap.size w w'))
  case atStart => exact ⟨(([] : List Int)), (0), (by first | rfl | (simp; done) | (simp [*]; done)), H', ⟨Nat.le_refl _⟩, ⟨by first | exact Kd.R_nil _ _ _ _ _ | exact Kd.N_nil _ _ _ _ _ | exact Kd.V_nil _ _ _ _ _ | exact Kd.Q_nil _ _ _ _ _ | exact Kd.S_nil _ _ _ _ _⟩, ⟨by repeat (first | (with_reducible first | exact HB.out | apply below_alloc | apply pw_below_drewN | apply below_drew1) | exact HB.out)⟩⟩
  case round =>
    clear H'
    obtain ⟨x3_1, x4_1, rfl, HA, HK1, HO_3, HB⟩ := hrel
    cases gk with
    | zero => exact absurd HA.out (by simp [flotillaref0_CopyBytes.l0])
    | succ k1 =>
      have H := HA.out
      clear HA
      simp only [flotillaref0_CopyBytes.l0] at H
      by_cases c2 : x4_1 < (l0.length : Int)
      · rw [if_pos c2] at H
        have c2b0 : decide (x4_1 < (l0.length : Int)) = true := decide_eq_true c2
        clear c2
        by_cases c3 : 0 ≤ x4_1
        · rw [if_pos c3] at H
          have c3b0 : decide (0 ≤ x4_1) = true := decide_eq_true c3
          clear c3
          by_cases c4 : x3_1.length < 140737488355328
          · rw [if_pos c4] at H
            have LMc4 := Aside0.mk c4
            clear c4
            obtain ⟨y141, hy141⟩ : ∃ y_ : List Int, y_ = (x3_1 ++ [rd l0 x4_1]) := ⟨_, rfl⟩
            replace H : (flotillaref0_CopyBytes.l0 k1 l0 y141 (wrap64 (x4_1 + 1))) = some r := by first | (rw [hy141]; with_reducible exact H) | (have H2_ := (Option.bind_some _ _).symm.trans H; rw [hy141]; with_reducible exact H2_) | (have H2_ := (Option.bind_some _ _).symm.trans H; with_reducible exact H2_) | with_reducible exact H | (rw [hy141]; exact H) | exact H
            have Ny141 := Aside0.mk hy141
            clear hy141
            have H' := Aside0.mk H
            clear H
            have p140 : 0 ≤ (x4_1 : Int) := of_decide_eq_true (by first | (with_reducible assumption) | assumption)
            have q140 : x4_1 < (l0.length : Int) := of_decide_eq_true (by first | (with_reducible assumption) | assumption)
            obtain ⟨ad140, e140, hx140_0⟩ := Kd.at_int HR0.out x4_1 p140 q140
            cases e140
            replace hx140_0 := (HB.out.cell (World.block_lt_of_cell? w _ hx140_0)).trans hx140_0
            replace p140 := eq_true p140
            replace q140 := eq_true q140
            go_wp2_with (first | ((with_reducible refine gate_builtin (b := .append) (xs := #[.tmp 11, .tmp 16]) rfl ?_); at_builtin; refine Kd.R_append (Kd.int .u8) (w0 := w) w.heap.size rfl (.tmp 11) (.tmp 16) 31 5 (.int .u8 0) 1 rfl Tryd.underlying31 info5 rfl (by decide) (by omega) u3 x3_1 (rd l0 x4_1) [.int .u8 (rd l0 x4_1)] (fun _ => True) (fun _ => False) rfl rfl ?aP (fun _ hk => hk.elim) ?aF ?aO ?aB ?aS ?aL ?_; (case aP => exact rfl); (case aB => exact (by repeat (first | (with_reducible first | exact HB.out | apply below_alloc | apply pw_below_drewN | apply below_drew1) | exact HB.out))); (case aF => exact (fun _ _ => trivial)); (case aO => exact (by (with_reducible repeat (first | apply Kd.R_alloc | apply Kd.R_drewN | apply Kd.R_drew)); exact HO_3.out)); (case aS => exact (below_size (by repeat (first | (with_reducible first | exact HB.out | apply below_alloc | apply pw_below_drewN | apply below_drew1) | exact HB.out)))); (case aL => have := LMc4.out; omega); intro v142 w5 ho hb hg hat; rw [← Ny141.out] at ho; have n0_ := Aside0.mk (hb); have n1_ := Aside0.mk (ho); clear HB; clear HO_3; have HB := n0_; have HO143 := n1_; clear n0_ n1_; clear ho hb hg hat))
            go_roundg k1
            case measure => have := HK1.out; omega
            case rel => exact ⟨(y141), (wrap64 (x4_1 + 1)), (by first | rfl | (simp; done) | (simp [*]; done)), H', ⟨by have := HK1.out; omega⟩, ⟨by (with_reducible repeat (first | apply Kd.R_alloc | apply Kd.R_drewN | apply Kd.R_drew)); exact HO143.out⟩, ⟨by repeat (first | (with_reducible first | exact HB.out | apply below_alloc | apply pw_below_drewN | apply below_drew1) | exact HB.out)⟩⟩
          · rw [if_neg c4] at H
            exact absurd H (by simp)
        · rw [if_neg c3] at H
          exact absurd H (by simp)
      · rw [if_neg c2] at H
        have c2b0 : decide (x4_1 < (l0.length : Int)) = false := decide_eq_false c2
        clear c2
        obtain rfl := Option.some.inj H
        go_wp2
        go_ret
        exact ⟨_, by first | rfl | (simp [errW_none, errW_some] <;> rfl) | (simp [*, errW_none, errW_some] <;> rfl), by (with_reducible repeat (first | apply Kd.R_alloc | apply Kd.R_drewN | apply Kd.R_drew)); exact HO_3.out, by repeat (first | (with_reducible first | exact HB.out | apply below_alloc | apply pw_below_drewN | apply below_drew1) | exact HB.out)⟩
theorem flotillaref0_CopyBytes.loop (l : List Int) (hl : l.length < 140737488355328) (d : Nat) : ∀ (k i : Nat), i ≤ l.length → l.length - i = d → d < k → flotillaref0_CopyBytes.l0 k l (l.take i) (i : Int) = some l := by
  induction d with
  | zero =>
    intro k i hi hd hk
    obtain ⟨k, rfl⟩ : ∃ m, k = m + 1 := ⟨k - 1, by omega⟩
    simp only [flotillaref0_CopyBytes.l0]
    rw [if_neg (by omega), List.take_of_length_le (by omega)]
  | succ d ih =>
    intro k i hi hd hk
    obtain ⟨k, rfl⟩ : ∃ m, k = m + 1 := ⟨k - 1, by omega⟩
    simp only [flotillaref0_CopyBytes.l0]
    rw [if_pos (by omega), if_pos (by omega), if_pos (by rw [List.length_take]; omega)]
    have e1 : wrap64 ((i : Int) + 1) = ((i + 1 : Nat) : Int) := by rw [IntWalk.wrap64_in _ ⟨by omega, by omega⟩]; rfl
    have e2 : l.take i ++ [rd l (i : Int)] = l.take (i + 1) := by
      rw [List.take_succ_eq_append_getElem (by omega)]
      simp [rd, List.getD_eq_getElem?_getD, List.getElem?_eq_getElem (show i < l.length by omega)]
    rw [e1, e2]
    exact ih k (i + 1) (by omega) (by omega) (by omega)
theorem flotillaref0_CopyBytes.spec (l : List Int) (hl : l.length < 140737488355328) (k : Nat) (hk : l.length < k) : flotillaref0_CopyBytes.f k l = some l :=
  flotillaref0_CopyBytes.loop l hl l.length k 0 (Nat.zero_le _) rfl hk

end Go.Proofs.YtckihppdjoianaaDoor.Print
