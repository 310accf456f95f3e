/- The functions below as plain Lean functions, each with the proof that the calls come to it; written by a program over the kit's print. -/
import Derived.Test.YtalkodandfjkmaaPrintx0
import Derived.Test.YtalkodandfjkmaaPrintx1
import Derived.Test.YtalkodandfjkmaaPrintx2
namespace Go.Proofs.Ytalkodandfjkmaa.Print
open Go.RowKit Go.Proofs.YtalkodandfjkmaaW.PrintWords Go.Proofs.YtalkodandfjkmaaW.PrintLast Go.Proofs.YtalkodandfjkmaaW.PrintMore
attribute [local go_sem] max2_int min2_int max_two min_two max_three min_three max_four min_four   -- for this text's walks alone
set_option linter.unusedVariables false
set_option linter.unusedSimpArgs false

/-! ### flotillalaw05_DigestBack: function 7 -/
def flotillalaw05_DigestBack.j0 : Nat → ByteArray → Bool → Option (Bool)
  | 0, _, _ => none
  | k + 1, x1, x30 => if x30 = true then (some false) else ((digest_Parse.f k x1).bind fun bt132 => (if bt132.2.isNone = true then ((digest_Text.f bt132.1).bind fun t135 => (some (t135.toList == x1.toList))) else (if bt132.1 = 0 then ((flotillakit_Num.f (some (bt132.2.getD 0))).bind fun t136 => (some (t136 == 4))) else (some false))))
def flotillalaw05_DigestBack.f (k : Nat) (a0 : Int) (a1 : ByteArray) : Option (Bool) := (flotillalaw05_works.f).bind fun t127 => (if t127 = true then ((digest_Text.f a0).bind fun t128 => ((digest_Parse.f k t128).bind fun bt129 => (if bt129.2.isNone = true then (if bt129.1 = a0 then (flotillalaw05_DigestBack.j0 k a1 ((t128.size : Int) != 13)) else (flotillalaw05_DigestBack.j0 k a1 true)) else (flotillalaw05_DigestBack.j0 k a1 true)))) else (some false))
theorem flotillalaw05_DigestBack.mono_l : ∀ k, (∀ y0 y1, LeO (flotillalaw05_DigestBack.j0 k y0 y1) (flotillalaw05_DigestBack.j0 (k + 1) y0 y1))
  | 0 => fun _ _ r h => by simp [flotillalaw05_DigestBack.j0] at h
  | k + 1 => by
    have ih0 := flotillalaw05_DigestBack.mono_l k
    · intro y0 y1
      unfold flotillalaw05_DigestBack.j0
      repeat' first
      | (with_reducible exact ih0 _ _)
      | (with_reducible exact digest_Parse.mono _ _)
      | (with_reducible exact LeO.refl _)
      | (with_reducible exact LeO.none _)
      | (with_reducible refine LeO.ite ?_ ?_)
      | (with_reducible refine LeO.bind ?_ (fun _ => ?_))
      | exact ih0 _ _
      | exact digest_Parse.mono _ _
      | exact LeO.none _
      | refine LeO.ite ?_ ?_
      | refine LeO.bind ?_ (fun _ => ?_)
theorem flotillalaw05_DigestBack.mono : ∀ a0 a1 k, LeO (flotillalaw05_DigestBack.f k a0 a1) (flotillalaw05_DigestBack.f (k + 1) a0 a1) := by
  intro a0 a1 k
  have ih0 := flotillalaw05_DigestBack.mono_l k
  unfold flotillalaw05_DigestBack.f
  repeat' first
      | (with_reducible exact ih0 _ _)
      | (with_reducible exact digest_Parse.mono _ _)
      | (with_reducible exact LeO.refl _)
      | (with_reducible exact LeO.none _)
      | (with_reducible refine LeO.ite ?_ ?_)
      | (with_reducible refine LeO.bind ?_ (fun _ => ?_))
      | exact ih0 _ _
      | exact digest_Parse.mono _ _
      | exact LeO.none _
      | refine LeO.ite ?_ ?_
      | refine LeO.bind ?_ (fun _ => ?_)
set_option maxHeartbeats 8000000 in
set_option maxRecDepth 100000 in
theorem flotillalaw05_DigestBack.calls (k : Nat) (a0 : Int) (a1 : ByteArray) (r : Bool) (w : World) (h : flotillalaw05_DigestBack.f k a0 a1 = some r) :
    Calls Try.prog 7 #[.int .u64 a0, .string a1] w fun e w' => e = .returned (.bool r) ∧ Below w.heap.size w w' := by
  have hu42 := Try.underlying42
  have hu57 := Try.underlying57
  have HB := Aside0.mk (Below.refl w.heap.size w)
  have H : ((flotillalaw05_works.f).bind fun t127 => (if t127 = true then ((digest_Text.f a0).bind fun t128 => ((digest_Parse.f k t128).bind fun bt129 => (if bt129.2.isNone = true then (if bt129.1 = a0 then (flotillalaw05_DigestBack.j0 k a1 ((t128.size : Int) != 13)) else (flotillalaw05_DigestBack.j0 k a1 true)) else (flotillalaw05_DigestBack.j0 k a1 true)))) else (some false))) = some r := h
  clear h
  replace H := Option.bind_eq_some_iff.mp H
  obtain ⟨t127, A30, H⟩ := H
  replace H : (if t127 = true then ((digest_Text.f a0).bind fun t128 => ((digest_Parse.f k t128).bind fun bt129 => (if bt129.2.isNone = true then (if bt129.1 = a0 then (flotillalaw05_DigestBack.j0 k a1 ((t128.size : Int) != 13)) else (flotillalaw05_DigestBack.j0 k a1 true)) else (flotillalaw05_DigestBack.j0 k a1 true)))) else (some false)) = some r := H
  have A3 := Aside0.mk A30
  clear A30
  by_cases c4 : t127 = true
  · subst c4
    have H1 : ((digest_Text.f a0).bind fun t128 => ((digest_Parse.f k t128).bind fun bt129 => (if bt129.2.isNone = true then (if bt129.1 = a0 then (flotillalaw05_DigestBack.j0 k a1 ((t128.size : Int) != 13)) else (flotillalaw05_DigestBack.j0 k a1 true)) else (flotillalaw05_DigestBack.j0 k a1 true)))) = some r := by rw [if_pos rfl] at H; exact H
    clear H
    have H := H1
    clear H1
    replace H := Option.bind_eq_some_iff.mp H
    obtain ⟨t128, A50, H⟩ := H
    replace H : ((digest_Parse.f k t128).bind fun bt129 => (if bt129.2.isNone = true then (if bt129.1 = a0 then (flotillalaw05_DigestBack.j0 k a1 ((t128.size : Int) != 13)) else (flotillalaw05_DigestBack.j0 k a1 true)) else (flotillalaw05_DigestBack.j0 k a1 true))) = some r := H
    have A5 := Aside0.mk A50
    clear A50
    replace H := Option.bind_eq_some_iff.mp H
    obtain ⟨⟨t129, t130⟩, A60, H⟩ := H
    replace H : (if t130.isNone = true then (if t129 = a0 then (flotillalaw05_DigestBack.j0 k a1 ((t128.size : Int) != 13)) else (flotillalaw05_DigestBack.j0 k a1 true)) else (flotillalaw05_DigestBack.j0 k a1 true)) = some r := H
    have A6 := Aside0.mk A60
    clear A60
    have HC7 := Aside0.mk H
    clear H
    go_enter Try.func7, Try.ntmps7
    go_upto_region 5 with (first | ((with_reducible refine gate_callee (f := 17) rfl ?_); refine goesL_ (some 10) rfl rfl Try.func17 (by kernel_rfl) rfl #[] rfl (by (try simp only [List.map_toArray, List.map_cons, List.map_nil]); first | done | rfl | (simp only [List.length_drop, List.length_take]; rfl)) ?_; (with_reducible refine (flotillalaw05_works.calls  true _ A3.out).mono ?_); rintro e w8 ⟨rfl, hb⟩; refine ⟨_, rfl, ?_⟩; have n0_ := Aside0.mk (below_step (by repeat (first | (with_reducible first | exact HB.out | apply below_alloc | apply pw_below_drewN | apply below_drew1) | exact HB.out)) hb); clear HB; have HB := n0_; clear n0_; (try clear hb); (try clear hb2); (try clear hk); (try clear hi)) | ((with_reducible refine gate_callee (f := 20) rfl ?_); refine goesL_ (some 13) rfl rfl Try.func20 (by kernel_rfl) rfl #[.int .u64 a0] rfl (by (try simp only [List.map_toArray, List.map_cons, List.map_nil]); first | done | rfl | (simp only [List.length_drop, List.length_take]; rfl)) ?_; (with_reducible refine (digest_Text.calls a0 t128 _ A5.out).mono ?_); rintro e w9 ⟨rfl, hb⟩; refine ⟨_, rfl, ?_⟩; have n0_ := Aside0.mk (below_step (by repeat (first | (with_reducible first | exact HB.out | apply below_alloc | apply pw_below_drewN | apply below_drew1) | exact HB.out)) hb); clear HB; have HB := n0_; clear n0_; (try clear hb); (try clear hb2); (try clear hk); (try clear hi)) | ((with_reducible refine gate_callee (f := 21) rfl ?_); refine goesL_ (some 16) rfl rfl Try.func21 (by kernel_rfl) rfl #[.string t128] rfl (by (try simp only [List.map_toArray, List.map_cons, List.map_nil]); first | done | rfl | (simp only [List.length_drop, List.length_take]; rfl)) ?_; (with_reducible refine (digest_Parse.calls k t128 t129 t130 _ A6.out).mono ?_); rintro e w' ⟨rfl, ⟨nd, rfl⟩⟩; refine ⟨_, rfl, ?_⟩; (try simp only [errW_none, errW_some])))
    (try simp only [Act.put, List.setIfInBounds_toArray, List.set_cons_zero, List.set_cons_succ])
    go_cut [30] (fun v30 wc => ∃ (kq : Nat) (x30_6 : Bool), v30 = .bool x30_6 ∧ Aside0 (flotillalaw05_DigestBack.j0 kq a1 x30_6 = some r) ∧ Aside0 (kq ≤ k) ∧ Aside0 (Below w.heap.size w wc))
    case first =>
      have H := HC7.out
      clear HC7
      rcases t130 with _ | q131
      · have H1 : (if t129 = a0 then (flotillalaw05_DigestBack.j0 k a1 ((t128.size : Int) != 13)) else (flotillalaw05_DigestBack.j0 k a1 true)) = some r := by rw [if_pos (show (none : Option Int).isNone = true by rfl)] at H; exact H
        clear H
        have H := H1
        clear H1
        try simp only [errW_none, errW_some]
        by_cases c10 : t129 = a0
        · rw [if_pos c10] at H
          have c10b0 : (t129 == a0) = true := beq_iff_eq.mpr c10
          have c10b1 : (t129 != a0) = false := bne_eq_false_iff_eq.mpr c10
          clear c10
          (first | rw [c10b0] | (simp only [i64_w, i32_w]; rw [c10b0]) | skip)
          have H' := Aside0.mk H
          clear H
          go_wp2
          go_meet
          case rel => exact ⟨_, (((t128.size : Int) != 13)), (by first | rfl | (simp; done) | (simp [*]; done)), H', ⟨by first | omega | exact Nat.le_refl _⟩, ⟨by repeat (first | (with_reducible first | exact HB.out | apply below_alloc | apply pw_below_drewN | apply below_drew1) | exact HB.out)⟩⟩
        · rw [if_neg c10] at H
          have c10b0 : (t129 == a0) = false := beq_eq_false_iff_ne.mpr c10
          have c10b1 : (t129 != a0) = true := bne_iff_ne.mpr c10
          (first | rw [c10b0] | (simp only [i64_w, i32_w]; rw [c10b0]) | skip)
          have H' := Aside0.mk H
          clear H
          go_wp2
          go_meet
          case rel => exact ⟨_, (true), (by first | rfl | (simp; done) | (simp [*]; done)), H', ⟨by first | omega | exact Nat.le_refl _⟩, ⟨by repeat (first | (with_reducible first | exact HB.out | apply below_alloc | apply pw_below_drewN | apply below_drew1) | exact HB.out)⟩⟩
      · have H1 : (flotillalaw05_DigestBack.j0 k a1 true) = some r := by rw [if_neg (show ¬ (some q131).isNone = true by simp)] at H; exact H
        clear H
        have H := H1
        clear H1
        try simp only [errW_none, errW_some]
        have H' := Aside0.mk H
        clear H
        go_wp2
        go_meet
        case rel => exact ⟨_, (true), (by first | rfl | (simp; done) | (simp [*]; done)), H', ⟨by first | omega | exact Nat.le_refl _⟩, ⟨by repeat (first | (with_reducible first | exact HB.out | apply below_alloc | apply pw_below_drewN | apply below_drew1) | exact HB.out)⟩⟩
    case rest =>
      clear HC7
      try clear c1
      try clear q1
      try clear c2
      try clear p2
      try clear c4
      try clear c7
      try clear c10
      try clear c10b0
      try clear c10b1
      try clear q131
      obtain ⟨kq, x30_6, rfl, HA, HJ6, HB⟩ := hcut
      cases kq with
      | zero => exact absurd HA.out (by simp [flotillalaw05_DigestBack.j0])
      | succ kj6 =>
        have H := HA.out
        clear HA
        simp only [flotillalaw05_DigestBack.j0] at H
        by_cases c11 : x30_6 = true
        · subst c11
          have H1 : (some false) = some r := by rw [if_pos rfl] at H; exact H
          clear H
          have H := H1
          clear H1
          obtain rfl := Option.some.inj H
          go_wp2
          go_ret
          exact ⟨by first | rfl | (simp [errW_none, errW_some] <;> rfl) | (simp [*, errW_none, errW_some] <;> rfl), by repeat (first | (with_reducible first | exact HB.out | apply below_alloc | apply pw_below_drewN | apply below_drew1) | exact HB.out)⟩
        · replace c11 := Bool.eq_false_iff.mpr c11
          subst c11
          have H1 : ((digest_Parse.f kj6 a1).bind fun bt132 => (if bt132.2.isNone = true then ((digest_Text.f bt132.1).bind fun t135 => (some (t135.toList == a1.toList))) else (if bt132.1 = 0 then ((flotillakit_Num.f (some (bt132.2.getD 0))).bind fun t136 => (some (t136 == 4))) else (some false)))) = some r := by rw [if_neg (show ¬ (false = true) by decide)] at H; exact H
          clear H
          have H := H1
          clear H1
          replace H := Option.bind_eq_some_iff.mp H
          obtain ⟨⟨t132, t133⟩, A120, H⟩ := H
          replace H : (if t133.isNone = true then ((digest_Text.f t132).bind fun t135 => (some (t135.toList == a1.toList))) else (if t132 = 0 then ((flotillakit_Num.f (some (t133.getD 0))).bind fun t136 => (some (t136 == 4))) else (some false))) = some r := H
          have A12 := Aside0.mk A120
          clear A120
          rcases t133 with _ | q134
          · have H1 : ((digest_Text.f t132).bind fun t135 => (some (t135.toList == a1.toList))) = some r := by rw [if_pos (show (none : Option Int).isNone = true by rfl)] at H; exact H
            clear H
            have H := H1
            clear H1
            try simp only [errW_none, errW_some]
            replace H := Option.bind_eq_some_iff.mp H
            obtain ⟨t135, A130, H⟩ := H
            replace H : (some (t135.toList == a1.toList)) = some r := H
            have A13 := Aside0.mk A130
            clear A130
            obtain rfl := Option.some.inj H
            go_wp2_with (first | ((with_reducible refine gate_callee (f := 21) rfl ?_); refine goesL_ (some 33) rfl rfl Try.func21 (by kernel_rfl) rfl #[.string a1] rfl (by (try simp only [List.map_toArray, List.map_cons, List.map_nil]); first | done | rfl | (simp only [List.length_drop, List.length_take]; rfl)) ?_; (with_reducible refine (digest_Parse.calls kj6 a1 t132 none _ A12.out).mono ?_); rintro e w' ⟨rfl, ⟨nd, rfl⟩⟩; refine ⟨_, rfl, ?_⟩; (try simp only [errW_none, errW_some])) | ((with_reducible refine gate_callee (f := 20) rfl ?_); refine goesL_ (some 46) rfl rfl Try.func20 (by kernel_rfl) rfl #[.int .u64 t132] rfl (by (try simp only [List.map_toArray, List.map_cons, List.map_nil]); first | done | rfl | (simp only [List.length_drop, List.length_take]; rfl)) ?_; (with_reducible refine (digest_Text.calls t132 t135 _ A13.out).mono ?_); rintro e w14 ⟨rfl, hb⟩; refine ⟨_, rfl, ?_⟩; have n0_ := Aside0.mk (below_step (by repeat (first | (with_reducible first | exact HB.out | apply below_alloc | apply pw_below_drewN | apply below_drew1) | exact HB.out)) hb); clear HB; have HB := n0_; clear n0_; (try clear hb); (try clear hb2); (try clear hk); (try clear hi)))
            go_ret
            exact ⟨by first | rfl | (simp [errW_none, errW_some] <;> rfl) | (simp [*, errW_none, errW_some] <;> rfl), by repeat (first | (with_reducible first | exact HB.out | apply below_alloc | apply pw_below_drewN | apply below_drew1) | exact HB.out)⟩
          · have H1 : (if t132 = 0 then ((flotillakit_Num.f (some q134)).bind fun t136 => (some (t136 == 4))) else (some false)) = some r := by rw [if_neg (show ¬ (some q134).isNone = true by simp)] at H; exact H
            clear H
            have H := H1
            clear H1
            try simp only [errW_none, errW_some]
            by_cases c15 : t132 = 0
            · rw [if_pos c15] at H
              have c15b0 : (t132 == 0) = true := beq_iff_eq.mpr c15
              have c15b1 : (t132 != 0) = false := bne_eq_false_iff_eq.mpr c15
              clear c15
              replace H := Option.bind_eq_some_iff.mp H
              obtain ⟨t136, A160, H⟩ := H
              replace H : (some (t136 == 4)) = some r := H
              have A16 := Aside0.mk A160
              clear A160
              obtain rfl := Option.some.inj H
              go_wp2_with (first | ((with_reducible refine gate_callee (f := 21) rfl ?_); refine goesL_ (some 33) rfl rfl Try.func21 (by kernel_rfl) rfl #[.string a1] rfl (by (try simp only [List.map_toArray, List.map_cons, List.map_nil]); first | done | rfl | (simp only [List.length_drop, List.length_take]; rfl)) ?_; (with_reducible refine (digest_Parse.calls kj6 a1 t132 (some q134) _ A12.out).mono ?_); rintro e w' ⟨rfl, ⟨nd, rfl⟩⟩; refine ⟨_, rfl, ?_⟩; (try simp only [errW_none, errW_some]); have CA16 := fun W => flotillakit_Num.calls (some q134) t136 W A16.out; try simp only [errW_none, errW_some] at CA16) | (go_at_call 22; (with_reducible refine (CA16 _).mono ?_); rintro e w' ⟨rfl, ⟨nd, rfl⟩⟩))
              go_ret
              exact ⟨by first | rfl | (simp [errW_none, errW_some] <;> rfl) | (simp [*, errW_none, errW_some] <;> rfl), by repeat (first | (with_reducible first | exact HB.out | apply below_alloc | apply pw_below_drewN | apply below_drew1) | exact HB.out)⟩
            · rw [if_neg c15] at H
              have c15b0 : (t132 == 0) = false := beq_eq_false_iff_ne.mpr c15
              have c15b1 : (t132 != 0) = true := bne_iff_ne.mpr c15
              obtain rfl := Option.some.inj H
              go_wp2_with (first | ((with_reducible refine gate_callee (f := 21) rfl ?_); refine goesL_ (some 33) rfl rfl Try.func21 (by kernel_rfl) rfl #[.string a1] rfl (by (try simp only [List.map_toArray, List.map_cons, List.map_nil]); first | done | rfl | (simp only [List.length_drop, List.length_take]; rfl)) ?_; (with_reducible refine (digest_Parse.calls kj6 a1 t132 (some q134) _ A12.out).mono ?_); rintro e w' ⟨rfl, ⟨nd, rfl⟩⟩; refine ⟨_, rfl, ?_⟩; (try simp only [errW_none, errW_some])))
              go_ret
              exact ⟨by first | rfl | (simp [errW_none, errW_some] <;> rfl) | (simp [*, errW_none, errW_some] <;> rfl), by repeat (first | (with_reducible first | exact HB.out | apply below_alloc | apply pw_below_drewN | apply below_drew1) | exact HB.out)⟩
  · replace c4 := Bool.eq_false_iff.mpr c4
    subst c4
    have H1 : (some false) = some r := by rw [if_neg (show ¬ (false = true) by decide)] at H; exact H
    clear H
    have H := H1
    clear H1
    obtain rfl := Option.some.inj H
    go_enter Try.func7, Try.ntmps7
    go_wp2_with (first | ((with_reducible refine gate_callee (f := 17) rfl ?_); refine goesL_ (some 10) rfl rfl Try.func17 (by kernel_rfl) rfl #[] rfl (by (try simp only [List.map_toArray, List.map_cons, List.map_nil]); first | done | rfl | (simp only [List.length_drop, List.length_take]; rfl)) ?_; (with_reducible refine (flotillalaw05_works.calls  false _ A3.out).mono ?_); rintro e w17 ⟨rfl, hb⟩; refine ⟨_, rfl, ?_⟩; have n0_ := Aside0.mk (below_step (by repeat (first | (with_reducible first | exact HB.out | apply below_alloc | apply pw_below_drewN | apply below_drew1) | exact HB.out)) hb); clear HB; have HB := n0_; clear n0_; (try clear hb); (try clear hb2); (try clear hk); (try clear hi)))
    go_ret
    exact ⟨by first | rfl | (simp [errW_none, errW_some] <;> rfl) | (simp [*, errW_none, errW_some] <;> rfl), by repeat (first | (with_reducible first | exact HB.out | apply below_alloc | apply pw_below_drewN | apply below_drew1) | exact HB.out)⟩

end Go.Proofs.Ytalkodandfjkmaa.Print
