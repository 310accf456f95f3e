/- The functions below as plain Lean functions, each with the proof that the calls come to it; written by a program over the kit's print. -/
import Derived.Test.YtalkodandfjkmaaPrintx0
namespace Go.Proofs.Ytalkodandfjkmaa.Print
open Go.RowKit Go.Proofs.YtalkodandfjkmaaW.PrintWords Go.Proofs.YtalkodandfjkmaaW.PrintLast Go.Proofs.YtalkodandfjkmaaW.PrintMore
attribute [local go_sem] max2_int min2_int max_two min_two max_three min_three max_four min_four   -- for this text's walks alone
set_option linter.unusedVariables false
set_option linter.unusedSimpArgs false

/-! ### flotillaref05_Number: function 38 -/
def flotillaref05_Number.l0 : Nat → Int → List Int → Int → Option (List Int)
  | 0, _, _, _ => none
  | k + 1, x0, x3, x4 => if x4 < 8 then (if 0 ≤ (IntKind.u64.wrap (wrap64 (8 * x4))) then (if x3.length < 140737488355328 then (flotillaref05_Number.l0 k x0 (x3 ++ [(shr .u64 (IntKind.u64.wrap (x0)) (IntKind.u64.wrap (wrap64 (8 * x4)))) % 256]) (wrap64 (x4 + 1))) else (none)) else (none)) else (some x3)
def flotillaref05_Number.f (k : Nat) (a0 : Int) : Option (List Int) := flotillaref05_Number.l0 k a0 ([] : List Int) 0
theorem flotillaref05_Number.mono_l : ∀ k, (∀ y0 y1 y2, LeO (flotillaref05_Number.l0 k y0 y1 y2) (flotillaref05_Number.l0 (k + 1) y0 y1 y2))
  | 0 => fun _ _ _ r h => by simp [flotillaref05_Number.l0] at h
  | k + 1 => by
    have ih0 := flotillaref05_Number.mono_l k
    · intro y0 y1 y2
      unfold flotillaref05_Number.l0
      repeat' first
      | (with_reducible exact ih0 _ _ _)
      | (with_reducible exact LeO.refl _)
      | (with_reducible exact LeO.none _)
      | (with_reducible refine LeO.ite ?_ ?_)
      | (with_reducible refine LeO.bind ?_ (fun _ => ?_))
      | exact ih0 _ _ _
      | exact LeO.none _
      | refine LeO.ite ?_ ?_
      | refine LeO.bind ?_ (fun _ => ?_)
theorem flotillaref05_Number.mono : ∀ a0 k, LeO (flotillaref05_Number.f k a0) (flotillaref05_Number.f (k + 1) a0) := by
  intro a0 k
  have ih0 := flotillaref05_Number.mono_l k
  unfold flotillaref05_Number.f
  repeat' first
      | (with_reducible exact ih0 _ _ _)
      | (with_reducible exact LeO.refl _)
      | (with_reducible exact LeO.none _)
      | (with_reducible refine LeO.ite ?_ ?_)
      | (with_reducible refine LeO.bind ?_ (fun _ => ?_))
      | exact ih0 _ _ _
      | exact LeO.none _
      | refine LeO.ite ?_ ?_
      | refine LeO.bind ?_ (fun _ => ?_)
set_option maxHeartbeats 8000000 in
set_option maxRecDepth 100000 in
theorem flotillaref05_Number.calls (k : Nat) (a0 : Int) (r : List Int) (w : World) (h : flotillaref05_Number.f k a0 = some r) :
    Calls Try.prog 38 #[.int .i64 a0] w fun e w' => ∃ v0_ : Value, e = .returned (v0_) ∧ Kd.R (Kd.int .u8) 5 w' w.heap.size (fun _ => True) v0_ r ∧ Below w.heap.size w w' := by
  have HB := Aside0.mk (Below.refl w.heap.size w)
  have H : (flotillaref05_Number.l0 k a0 ([] : List Int) 0) = some r := h
  clear h
  have H' := Aside0.mk H
  clear H
  go_enter Try.func38, Try.ntmps38
  go_wp2
  go_loopg [3, 4] k (fun kq v3 v4 w' => ∃ (x3_1 : List Int) (x4_1 : Int), v4 = .int .i64 x4_1 ∧ Aside0 (flotillaref05_Number.l0 kq a0 x3_1 x4_1 = some r) ∧ Aside0 (kq ≤ k) ∧ Aside0 (Kd.R (Kd.int .u8) 5 w' w.heap.size (fun _ => True) v3 x3_1) ∧ Aside0 (Below w.heap.size w w'))
  case atStart => exact ⟨(([] : List Int)), (0), (by first | rfl | (simp; done) | (simp [*]; done)), H', ⟨Nat.le_refl _⟩, ⟨by first | exact Kd.R_nil _ _ _ _ _ | exact Kd.N_nil _ _ _ _ _ | exact Kd.V_nil _ _ _ _ _ | exact Kd.Q_nil _ _ _ _ _ | exact Kd.S_nil _ _ _ _ _⟩, ⟨by repeat (first | (with_reducible first | exact HB.out | apply below_alloc | apply pw_below_drewN | apply below_drew1) | exact HB.out)⟩⟩
  case round =>
    clear H'
    obtain ⟨x3_1, x4_1, rfl, HA, HK1, HO_3, HB⟩ := hrel
    cases gk with
    | zero => exact absurd HA.out (by simp [flotillaref05_Number.l0])
    | succ k1 =>
      have H := HA.out
      clear HA
      simp only [flotillaref05_Number.l0] at H
      by_cases c2 : x4_1 < 8
      · rw [if_pos c2] at H
        have c2b0 : decide (x4_1 < 8) = true := decide_eq_true c2
        clear c2
        obtain ⟨ji3, hji3⟩ : ∃ j_ : Int, (IntKind.u64.wrap (wrap64 (8 * x4_1))) = j_ := ⟨_, rfl⟩
        replace H : (if 0 ≤ (ji3) then (if x3_1.length < 140737488355328 then (flotillaref05_Number.l0 k1 a0 (x3_1 ++ [(shr .u64 (IntKind.u64.wrap (a0)) (ji3)) % 256]) (wrap64 (x4_1 + 1))) else (none)) else (none)) = some r := by first | (rw [hji3] at H; exact H) | (simp only [hji3] at H ⊢; exact H)
        by_cases c4 : 0 ≤ (ji3)
        · rw [if_pos c4] at H
          have c4b0 := eq_true c4
          have c4b1 : decide (0 ≤ (ji3)) = true := decide_eq_true c4
          clear c4
          obtain ⟨ji5, hji5⟩ : ∃ j_ : Int, (shr .u64 (IntKind.u64.wrap (a0)) (ji3)) = j_ := ⟨_, rfl⟩
          replace H : (if x3_1.length < 140737488355328 then (flotillaref05_Number.l0 k1 a0 (x3_1 ++ [(ji5) % 256]) (wrap64 (x4_1 + 1))) else (none)) = some r := by first | (rw [hji5] at H; exact H) | (simp only [hji5] at H ⊢; exact H)
          have hji5_ : ((IntKind.u64.wrap (a0)) / 2 ^ min (ji3).toNat 64) = ji5 := hji5
          have hji5z : (ji3) ≤ 64 → ((IntKind.u64.wrap (a0)) / 2 ^ (ji3).toNat) = ji5 := shr_small hji5
          by_cases c6 : x3_1.length < 140737488355328
          · rw [if_pos c6] at H
            have LMc6 := Aside0.mk c6
            clear c6
            obtain ⟨y120, hy120⟩ : ∃ y_ : List Int, y_ = (x3_1 ++ [(ji5) % 256]) := ⟨_, rfl⟩
            replace H : (flotillaref05_Number.l0 k1 a0 y120 (wrap64 (x4_1 + 1))) = some r := by first | (rw [hy120]; with_reducible exact H) | (have H2_ := (Option.bind_some _ _).symm.trans H; rw [hy120]; with_reducible exact H2_) | (have H2_ := (Option.bind_some _ _).symm.trans H; with_reducible exact H2_) | with_reducible exact H | (rw [hy120]; exact H) | exact H
            have Ny120 := Aside0.mk hy120
            clear hy120
            have H' := Aside0.mk H
            clear H
            go_wp2_with (first | ((with_reducible refine gate_builtin (b := .append) (xs := #[.tmp 9, .tmp 17]) rfl ?_); at_builtin; refine Kd.R_append (Kd.int .u8) (w0 := w) w.heap.size rfl (.tmp 9) (.tmp 17) 22 5 (.int .u8 0) 1 rfl Try.underlying22 info5 rfl (by decide) (by omega) u3 x3_1 ((ji5) % 256) [.int .u8 ((ji5) % 256)] (fun _ => True) (fun _ => False) rfl rfl ?aP (fun _ hk => hk.elim) ?aF ?aO ?aB ?aS ?aL ?_; (case aP => exact rfl); (case aB => exact (by repeat (first | (with_reducible first | exact HB.out | apply below_alloc | apply pw_below_drewN | apply below_drew1) | exact HB.out))); (case aF => exact (fun _ _ => trivial)); (case aO => exact (by (with_reducible repeat (first | apply Kd.R_alloc | apply Kd.R_drewN | apply Kd.R_drew)); exact HO_3.out)); (case aS => exact (below_size (by repeat (first | (with_reducible first | exact HB.out | apply below_alloc | apply pw_below_drewN | apply below_drew1) | exact HB.out)))); (case aL => have := LMc6.out; omega); intro v121 w7 ho hb hg hat; rw [← Ny120.out] at ho; have n0_ := Aside0.mk (hb); have n1_ := Aside0.mk (ho); clear HB; clear HO_3; have HB := n0_; have HO122 := n1_; clear n0_ n1_; clear ho hb hg hat))
            go_roundg k1
            case measure => have := HK1.out; omega
            case rel => exact ⟨(y120), (wrap64 (x4_1 + 1)), (by first | rfl | (simp; done) | (simp [*]; done)), H', ⟨by have := HK1.out; omega⟩, ⟨by (with_reducible repeat (first | apply Kd.R_alloc | apply Kd.R_drewN | apply Kd.R_drew)); exact HO122.out⟩, ⟨by repeat (first | (with_reducible first | exact HB.out | apply below_alloc | apply pw_below_drewN | apply below_drew1) | exact HB.out)⟩⟩
          · rw [if_neg c6] at H
            exact absurd H (by simp)
        · rw [if_neg c4] at H
          exact absurd H (by simp)
      · rw [if_neg c2] at H
        have c2b0 : decide (x4_1 < 8) = false := decide_eq_false c2
        clear c2
        obtain rfl := Option.some.inj H
        go_wp2
        go_ret
        exact ⟨_, by first | rfl | (simp [errW_none, errW_some] <;> rfl) | (simp [*, errW_none, errW_some] <;> rfl), by (with_reducible repeat (first | apply Kd.R_alloc | apply Kd.R_drewN | apply Kd.R_drew)); exact HO_3.out, by repeat (first | (with_reducible first | exact HB.out | apply below_alloc | apply pw_below_drewN | apply below_drew1) | exact HB.out)⟩
theorem flotillaref05_Number.len (v : Int) (i : Nat) : (Go.Proofs.Ytalkodandfjkmaa.Dig.numB v i).length = i := by
  induction i with
  | zero => rfl
  | succ i ih => rw [show Go.Proofs.Ytalkodandfjkmaa.Dig.numB v (i + 1) = Go.Proofs.Ytalkodandfjkmaa.Dig.numB v i ++ [v / 256 ^ i % 256] from rfl, List.length_append, ih]; rfl
theorem flotillaref05_Number.sh (i : Nat) (h : i < 8) : IntKind.u64.wrap (wrap64 (8 * (i : Int))) = ((8 * i : Nat) : Int) := by
  have e : wrap64 (8 * (i : Int)) = 8 * (i : Int) := wu_id _ (by omega) (by omega)
  rw [e, IntWalk.u64_in _ ⟨by omega, by omega⟩]
  rfl
theorem flotillaref05_Number.byte (n : Int) (i : Nat) (h : i < 8) : shr .u64 (IntKind.u64.wrap n) (IntKind.u64.wrap (wrap64 (8 * (i : Int)))) % 256 = IntKind.u64.wrap n / 256 ^ i % 256 := by
  rw [flotillaref05_Number.sh i h]
  have h0 : 0 ≤ IntKind.u64.wrap n := by
    rw [show IntKind.u64.wrap n = n % 18446744073709551616 by simp [IntKind.wrap, IntKind.bits, IntKind.signed]]
    omega
  obtain ⟨m, hm⟩ := Int.eq_ofNat_of_zero_le h0
  rw [hm, shr_nat .u64 m (8 * i) (by show 8 * i ≤ 64; omega)]
  have e : (2 : Nat) ^ (8 * i) = 256 ^ i := by rw [Nat.pow_mul]
  rw [e, Int.natCast_ediv, Int.natCast_pow]
  rfl
theorem flotillaref05_Number.loop (n : Int) : ∀ d i : Nat, i + d = 8 → Ev (fun k => flotillaref05_Number.l0 k n (Go.Proofs.Ytalkodandfjkmaa.Dig.numB (IntKind.u64.wrap n) i) (i : Int)) (Go.Proofs.Ytalkodandfjkmaa.Dig.numB (IntKind.u64.wrap n) 8) := by
  intro d
  induction d with
  | zero =>
    intro i hi
    obtain rfl : i = 8 := by omega
    refine Ev.step (fun _ => by simp only [flotillaref05_Number.l0]; rfl) ?_
    exact Ev.neg (by omega) (Ev.now _)
  | succ d ih =>
    intro i hi
    have hn := flotillaref05_Number.len (IntKind.u64.wrap n) i
    refine Ev.step (fun _ => by simp only [flotillaref05_Number.l0]; rfl) ?_
    refine Ev.pos (by omega) (Ev.pos (by rw [flotillaref05_Number.sh i (by omega)]; omega) (Ev.pos (by rw [hn]; omega) ?_))
    rw [flotillaref05_Number.byte n i (by omega), wu_one i (by omega)]
    exact ih (i + 1) (by omega)
theorem flotillaref05_Number.ev (n : Int) : Ev (fun k => flotillaref05_Number.f k n) (Go.Proofs.Ytalkodandfjkmaa.Dig.numB (IntKind.u64.wrap n) 8) := flotillaref05_Number.loop n 8 0 rfl

/-! ### flotillaref05_Letters: function 37 -/
def flotillaref05_Letters.f (k : Nat) (a0 : ByteArray) : Option (List Int) := (flotillaref05_Number.f k (a0.size : Int)).bind fun t123 => (if t123.length + a0.size < 140737488355328 then (some (t123 ++ bytesOf a0)) else (none))
theorem flotillaref05_Letters.mono : ∀ a0 k, LeO (flotillaref05_Letters.f k a0) (flotillaref05_Letters.f (k + 1) a0) := by
  intro a0 k
  unfold flotillaref05_Letters.f
  repeat' first
      | (with_reducible exact flotillaref05_Number.mono _ _)
      | (with_reducible exact LeO.refl _)
      | (with_reducible exact LeO.none _)
      | (with_reducible refine LeO.ite ?_ ?_)
      | (with_reducible refine LeO.bind ?_ (fun _ => ?_))
      | exact flotillaref05_Number.mono _ _
      | exact LeO.none _
      | refine LeO.ite ?_ ?_
      | refine LeO.bind ?_ (fun _ => ?_)
set_option maxHeartbeats 8000000 in
set_option maxRecDepth 100000 in
theorem flotillaref05_Letters.calls (k : Nat) (a0 : ByteArray) (r : List Int) (w : World) (h : flotillaref05_Letters.f k a0 = some r) :
    Calls Try.prog 37 #[.string a0] w fun e w' => ∃ v0_ : Value, e = .returned (v0_) ∧ Kd.R (Kd.int .u8) 5 w' w.heap.size (fun _ => True) v0_ r ∧ Below w.heap.size w w' := by
  have HB := Aside0.mk (Below.refl w.heap.size w)
  have H : ((flotillaref05_Number.f k (a0.size : Int)).bind fun t123 => (if t123.length + a0.size < 140737488355328 then (some (t123 ++ bytesOf a0)) else (none))) = some r := h
  clear h
  replace H := Option.bind_eq_some_iff.mp H
  obtain ⟨t123, A20, H⟩ := H
  replace H : (if t123.length + a0.size < 140737488355328 then (some (t123 ++ bytesOf a0)) else (none)) = some r := H
  have A2 := Aside0.mk A20
  clear A20
  by_cases c3 : t123.length + a0.size < 140737488355328
  · rw [if_pos c3] at H
    have LMc3 := Aside0.mk c3
    clear c3
    obtain ⟨y126, hy126⟩ : ∃ y_ : List Int, y_ = (t123 ++ bytesOf a0) := ⟨_, rfl⟩
    replace H : (some y126) = some r := by first | (rw [hy126]; with_reducible exact H) | (have H2_ := (Option.bind_some _ _).symm.trans H; rw [hy126]; with_reducible exact H2_) | (have H2_ := (Option.bind_some _ _).symm.trans H; with_reducible exact H2_) | with_reducible exact H | (rw [hy126]; exact H) | exact H
    have Ny126 := Aside0.mk hy126
    clear hy126
    obtain rfl := Option.some.inj H
    go_enter Try.func37, Try.ntmps37
    go_wp2_with (first | ((with_reducible refine gate_callee (f := 38) rfl ?_); refine goesL_ (some 6) rfl rfl Try.func38 (by kernel_rfl) rfl #[.int .i64 (a0.size : Int)] rfl (by (try simp only [List.map_toArray, List.map_cons, List.map_nil]); first | done | rfl | (simp only [List.length_drop, List.length_take]; rfl)) ?_; (with_reducible refine (flotillaref05_Number.calls k (a0.size : Int) t123 _ A2.out).mono ?_); rintro e w4 ⟨v124, rfl, ho0, hb⟩; refine ⟨_, rfl, ?_⟩; have n0_ := Aside0.mk (Kd.R_lower ho0 (below_size (by repeat (first | (with_reducible first | exact HB.out | apply below_alloc | apply pw_below_drewN | apply below_drew1) | exact HB.out)))); have n1_ := Aside0.mk (below_step (by repeat (first | (with_reducible first | exact HB.out | apply below_alloc | apply pw_below_drewN | apply below_drew1) | exact HB.out)) hb); clear HB; have HO125 := n0_; have HB := n1_; clear n0_ n1_; (try clear hb); (try clear hb2); (try clear hk); (try clear hi); (try clear ho0)) | (at_builtin; refine print_append_str (w0 := w) w.heap.size rfl (.tmp 7) _ 22 9 5 rfl Try.underlying22 Try.underlying9 info5 v124 t123 a0 rfl rfl ?aO ?aB ?aS ?aL ?_; (case aB => exact (by repeat (first | (with_reducible first | exact HB.out | apply below_alloc | apply pw_below_drewN | apply below_drew1) | exact HB.out))); (case aO => exact (Kd.own_of_R (by (with_reducible repeat (first | apply Kd.R_alloc | apply Kd.R_drewN | apply Kd.R_drew)); exact HO125.out))); (case aS => exact (below_size (by repeat (first | (with_reducible first | exact HB.out | apply below_alloc | apply pw_below_drewN | apply below_drew1) | exact HB.out)))); (case aL => have := LMc3.out; omega); intro v127 w5 ho0 hb hg; have ho := Kd.R_of_own (h1 := fun _ => rfl) (ok := fun _ => True) ho0 (fun _ _ => trivial); clear ho0; have hat := True.intro; rw [← Ny126.out] at ho; change Kd.R (Kd.int .u8) 5 w5 w.heap.size (fun _ => True) v127 y126 at ho; have n0_ := Aside0.mk (hb); have n1_ := Aside0.mk (ho); clear HB; clear HO125; have HB := n0_; have HO128 := n1_; clear n0_ n1_; clear ho hb hg hat))
    go_ret
    exact ⟨_, by first | rfl | (simp [errW_none, errW_some] <;> rfl) | (simp [*, errW_none, errW_some] <;> rfl), by (with_reducible repeat (first | apply Kd.R_alloc | apply Kd.R_drewN | apply Kd.R_drew)); exact HO128.out, by repeat (first | (with_reducible first | exact HB.out | apply below_alloc | apply pw_below_drewN | apply below_drew1) | exact HB.out)⟩
  · rw [if_neg c3] at H
    exact absurd H (by simp)
theorem flotillaref05_Letters.len (s : ByteArray) : (Go.Proofs.Ytalkodandfjkmaa.Dig.It.bytes (.text s)).length = 8 + s.size := by
  rw [show Go.Proofs.Ytalkodandfjkmaa.Dig.It.bytes (.text s) = Go.Proofs.Ytalkodandfjkmaa.Dig.numB (IntKind.u64.wrap s.size) 8 ++ Go.Proofs.Ytalkodandfjkmaa.Dig.strB s from rfl, List.length_append, flotillaref05_Number.len, Go.Proofs.Ytalkodandfjkmaa.Dig.strB_len]
theorem flotillaref05_Letters.ev (s : ByteArray) (hs : s.size ≤ 140737488351232) : Ev (fun k => flotillaref05_Letters.f k s) (Go.Proofs.Ytalkodandfjkmaa.Dig.It.bytes (.text s)) := by
  unfold flotillaref05_Letters.f
  exact Ev.bind (flotillaref05_Number.ev _) (Ev.pos (by rw [flotillaref05_Number.len]; omega) (Ev.now _))

end Go.Proofs.Ytalkodandfjkmaa.Print
