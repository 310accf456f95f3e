/- The functions below as plain Lean functions, each with the proof that the calls come to it; written by a program over the kit's print. -/
import Derived.Test.YtckihppdjoianaaDoorPrintx0
namespace Go.Proofs.YtckihppdjoianaaDoor.Print
open Go.RowKit Go.Proofs.YtckihppdjoianaaDoorW.PrintWords Go.Proofs.YtckihppdjoianaaDoorW.PrintLast Go.Proofs.YtckihppdjoianaaDoorW.PrintMore
attribute [local go_sem] max2_int min2_int max_two min_two max_three min_three max_four min_four   -- for this text's walks alone
set_option linter.unusedVariables false
set_option linter.unusedSimpArgs false

/-! ### sum_byteful: function 26 -/
def sum_byteful.l0 : Nat → Int → Int → Option (Int)
  | 0, _, _ => none
  | k + 1, x0, x3 => if x3 < 8 then (sum_byteful.l0 k (Go.bits .xor .u32 (x0 / 2) (Go.bits .and .u32 2197175160 ((-(Go.bits .and .u32 x0 1)) % 4294967296))) (wrap64 (x3 + 1))) else (some x0)
def sum_byteful.f (k : Nat) (a0 : Int) : Option (Int) := sum_byteful.l0 k a0 0
theorem sum_byteful.mono_l : ∀ k, (∀ y0 y1, LeO (sum_byteful.l0 k y0 y1) (sum_byteful.l0 (k + 1) y0 y1))
  | 0 => fun _ _ r h => by simp [sum_byteful.l0] at h
  | k + 1 => by
    have ih0 := sum_byteful.mono_l k
    · intro y0 y1
      unfold sum_byteful.l0
      repeat' first
      | (with_reducible exact ih0 _ _)
      | (with_reducible exact LeO.refl _)
      | (with_reducible exact LeO.none _)
      | (with_reducible refine LeO.ite ?_ ?_)
      | (with_reducible refine LeO.bind ?_ (fun _ => ?_))
      | exact ih0 _ _
      | exact LeO.none _
      | refine LeO.ite ?_ ?_
      | refine LeO.bind ?_ (fun _ => ?_)
theorem sum_byteful.mono : ∀ a0 k, LeO (sum_byteful.f k a0) (sum_byteful.f (k + 1) a0) := by
  intro a0 k
  have ih0 := sum_byteful.mono_l k
  unfold sum_byteful.f
  repeat' first
      | (with_reducible exact ih0 _ _)
      | (with_reducible exact LeO.refl _)
      | (with_reducible exact LeO.none _)
      | (with_reducible refine LeO.ite ?_ ?_)
      | (with_reducible refine LeO.bind ?_ (fun _ => ?_))
      | exact ih0 _ _
      | exact LeO.none _
      | refine LeO.ite ?_ ?_
      | refine LeO.bind ?_ (fun _ => ?_)
set_option maxHeartbeats 8000000 in
set_option maxRecDepth 100000 in
theorem sum_byteful.calls (k : Nat) (a0 : Int) (r : Int) (w : World) (h : sum_byteful.f k a0 = some r) :
    Calls Tryd.prog 26 #[.int .u32 a0] w fun e w' => e = .returned (.int .u32 r) ∧ Drawn0 w w' := by
  have H : (sum_byteful.l0 k a0 0) = some r := h
  clear h
  have H' := Aside0.mk H
  clear H
  go_enter Tryd.func26, Tryd.ntmps26
  go_wp2
  go_loopg [0, 3] k (fun kq v0 v3 w' => ∃ (x0_1 : Int) (x3_1 : Int), v0 = .int .u32 x0_1 ∧ v3 = .int .i64 x3_1 ∧ Aside0 (sum_byteful.l0 kq x0_1 x3_1 = some r) ∧ Aside0 (kq ≤ k) ∧ Drawn0 w w')
  case atStart => exact ⟨(a0), (0), (by first | rfl | (simp; done) | (simp [*]; done)), (by first | rfl | (simp; done) | (simp [*]; done)), H', ⟨Nat.le_refl _⟩, by repeat (first | exact Drawn0.refl _ | apply Drawn0.step)⟩
  case round =>
    clear H'
    obtain ⟨x0_1, x3_1, rfl, rfl, HA, HK1, ⟨m1, rfl⟩⟩ := hrel
    cases gk with
    | zero => exact absurd HA.out (by simp [sum_byteful.l0])
    | succ k1 =>
      have H := HA.out
      clear HA
      simp only [sum_byteful.l0] at H
      by_cases c2 : x3_1 < 8
      · rw [if_pos c2] at H
        have c2b0 : decide (x3_1 < 8) = true := decide_eq_true c2
        clear c2
        have H' := Aside0.mk H
        clear H
        go_wp2
        go_roundg k1
        case measure => have := HK1.out; omega
        case rel => exact ⟨(Go.bits .xor .u32 (x0_1 / 2) (Go.bits .and .u32 2197175160 ((-(Go.bits .and .u32 x0_1 1)) % 4294967296))), (wrap64 (x3_1 + 1)), (by first | rfl | (simp; done) | (simp [*]; done)), (by first | rfl | (simp; done) | (simp [*]; done)), H', ⟨by have := HK1.out; omega⟩, by repeat (first | exact Drawn0.refl _ | apply Drawn0.step)⟩
      · rw [if_neg c2] at H
        have c2b0 : decide (x3_1 < 8) = false := decide_eq_false c2
        clear c2
        obtain rfl := Option.some.inj H
        go_wp2
        go_ret
        exact ⟨by first | rfl | (simp; done) | (simp [*]; done), by repeat (first | exact Drawn0.refl _ | apply Drawn0.step)⟩
theorem sum_byteful.loop (m : Nat) : ∀ (j r : Nat), r < 2 ^ 32 → j ≤ 8 → sum_byteful.l0 (m + 1 + j) (r : Int) (8 - (j : Int)) = some (Go.Proofs.YtckihppdjoianaaDoor.Crc.it j r : Int) := by
  intro j
  induction j with
  | zero =>
    intro r _ _
    simp only [Nat.add_zero, sum_byteful.l0]
    rw [if_neg (by omega)]
    rfl
  | succ j ih =>
    intro r h hj
    show sum_byteful.l0 ((m + 1 + j) + 1) (r : Int) _ = _
    simp only [sum_byteful.l0]
    rw [if_pos (by omega), Go.Proofs.YtckihppdjoianaaDoor.Crc.step_go h]
    have e : wrap64 (8 - ((j + 1 : Nat) : Int) + 1) = 8 - (j : Int) := by rw [IntWalk.wrap64_in _ ⟨by omega, by omega⟩]; omega
    rw [e, ih _ (Go.Proofs.YtckihppdjoianaaDoor.Crc.step_lt h) (by omega)]
    rfl
theorem sum_byteful.spec (k r : Nat) (hr : r < 2 ^ 32) (hk : 9 ≤ k) : sum_byteful.f k (r : Int) = some (Go.Proofs.YtckihppdjoianaaDoor.Crc.it 8 r : Int) := by
  have := sum_byteful.loop (k - 9) 8 r hr (Nat.le_refl _)
  rw [show k - 9 + 1 + 8 = k by omega] at this
  exact this

/-! ### sum_Join: function 5 -/
def sum_Join.f (a0 : Int) (a1 : Int) (a2 : Int) : Option (Int × Option Int) :=
  if 0 ≤ a0 ∧ a0 < 4294967296 ∧ 0 ≤ a1 ∧ a1 < 4294967296 ∧ a2 < 9223372036854775808 then
    (if a2 < 0 then some (0, some 1) else some (((Go.Proofs.YtckihppdjoianaaDoor.Crc.it (8 * a2.toNat) a0.toNat ^^^ a1.toNat : Nat) : Int), none))
  else none
theorem sum_Join.calls (a0 : Int) (a1 : Int) (a2 : Int) (r1 : Int) (r2 : Option Int) (w : World) (h : sum_Join.f a0 a1 a2 = some (r1, r2)) :
    Calls Tryd.prog 5 #[.int .u32 a0, .int .u32 a1, .int .i64 a2] w fun e w' => e = .returned (.tuple #[.int .u32 r1, errW r2]) ∧ Below w.heap.size w w' := by
  unfold sum_Join.f at h
  by_cases hc : 0 ≤ a0 ∧ a0 < 4294967296 ∧ 0 ≤ a1 ∧ a1 < 4294967296 ∧ a2 < 9223372036854775808
  · rw [if_pos hc] at h
    by_cases hn : a2 < 0
    · rw [if_pos hn] at h
      cases h
      refine (Go.Proofs.YtckihppdjoianaaDoor.Pow.join_neg a0 a1 a2 hn w).mono ?_
      rintro e w' ⟨rfl, rfl⟩
      exact ⟨rfl, Below.refl _ _⟩
    · rw [if_neg hn] at h
      cases h
      obtain ⟨x, rfl⟩ := Int.eq_ofNat_of_zero_le hc.1
      obtain ⟨y, rfl⟩ := Int.eq_ofNat_of_zero_le hc.2.2.1
      obtain ⟨n, rfl⟩ := Int.eq_ofNat_of_zero_le (show 0 ≤ a2 by omega)
      exact Go.Proofs.YtckihppdjoianaaDoor.Pow.join_calls x y n (by omega) (by omega) (by omega) w
  · rw [if_neg hc] at h
    cases h
theorem sum_Join.is (x y n : Nat) (hx : x < 2 ^ 32) (hy : y < 2 ^ 32) (hn : n < 9223372036854775808) : sum_Join.f (x : Int) (y : Int) (n : Int) = some (((Go.Proofs.YtckihppdjoianaaDoor.Crc.it (8 * n) x ^^^ y : Nat) : Int), none) := by
  unfold sum_Join.f
  rw [if_pos (by omega), if_neg (by omega)]
  rfl
theorem sum_Join.no (x y : Nat) (n : Int) (hx : x < 2 ^ 32) (hy : y < 2 ^ 32) (hn : n < 0) : sum_Join.f (x : Int) (y : Int) n = some (0, some 1) := by
  unfold sum_Join.f
  rw [if_pos (by omega), if_pos hn]

/-! ### flotillaref04_bit: function 28 -/
def flotillaref04_bit.f (a0 : Int) : Option (Int) := if (Go.bits .and .u32 a0 1) = 1 then (some (Go.bits .xor .u32 (a0 / 2) 2197175160)) else (some (a0 / 2))
set_option maxHeartbeats 8000000 in
set_option maxRecDepth 100000 in
theorem flotillaref04_bit.calls (a0 : Int) (r : Int) (w : World) (h : flotillaref04_bit.f a0 = some r) :
    Calls Tryd.prog 28 #[.int .u32 a0] w fun e w' => e = .returned (.int .u32 r) ∧ Drawn0 w w' := by
  have H : (if (Go.bits .and .u32 a0 1) = 1 then (some (Go.bits .xor .u32 (a0 / 2) 2197175160)) else (some (a0 / 2))) = some r := h
  clear h
  by_cases c2 : (Go.bits .and .u32 a0 1) = 1
  · rw [if_pos c2] at H
    have c2b0 : ((Go.bits .and .u32 a0 1) == 1) = true := beq_iff_eq.mpr c2
    have c2b1 : ((Go.bits .and .u32 a0 1) != 1) = false := bne_eq_false_iff_eq.mpr c2
    clear c2
    obtain rfl := Option.some.inj H
    go_enter Tryd.func28, Tryd.ntmps28
    go_wp2
    go_ret
    exact ⟨by first | rfl | (simp; done) | (simp [*]; done), by repeat (first | exact Drawn0.refl _ | apply Drawn0.step)⟩
  · rw [if_neg c2] at H
    have c2b0 : ((Go.bits .and .u32 a0 1) == 1) = false := beq_eq_false_iff_ne.mpr c2
    have c2b1 : ((Go.bits .and .u32 a0 1) != 1) = true := bne_iff_ne.mpr c2
    obtain rfl := Option.some.inj H
    go_enter Tryd.func28, Tryd.ntmps28
    go_wp2
    go_ret
    exact ⟨by first | rfl | (simp; done) | (simp [*]; done), by repeat (first | exact Drawn0.refl _ | apply Drawn0.step)⟩

/-! ### flotillaref04_over: function 29 -/
def flotillaref04_over.l0 : Nat → List Int → Int → Int → Int → Option (Int)
  | 0, _, _, _, _ => none
  | k + 1, x0, x1, x5, x6 => if x6 < 32 then (if 0 ≤ x6 then (if (Go.bits .and .u32 (shr .u32 x1 x6) 1) = 1 then (if x6 < (x0.length : Int) then (flotillaref04_over.l0 k x0 x1 (Go.bits .xor .u32 x5 (rd x0 x6)) (wrap64 (x6 + 1))) else (none)) else (flotillaref04_over.l0 k x0 x1 x5 (wrap64 (x6 + 1)))) else (none)) else (some x5)
def flotillaref04_over.f (k : Nat) (l0 : List Int) (a1 : Int) : Option (Int) := flotillaref04_over.l0 k l0 a1 0 0
theorem flotillaref04_over.mono_l : ∀ k, (∀ y0 y1 y2 y3, LeO (flotillaref04_over.l0 k y0 y1 y2 y3) (flotillaref04_over.l0 (k + 1) y0 y1 y2 y3))
  | 0 => fun _ _ _ _ r h => by simp [flotillaref04_over.l0] at h
  | k + 1 => by
    have ih0 := flotillaref04_over.mono_l k
    · intro y0 y1 y2 y3
      unfold flotillaref04_over.l0
      repeat' first
      | (with_reducible exact ih0 _ _ _ _)
      | (with_reducible exact LeO.refl _)
      | (with_reducible exact LeO.none _)
      | (with_reducible refine LeO.ite ?_ ?_)
      | (with_reducible refine LeO.bind ?_ (fun _ => ?_))
      | exact ih0 _ _ _ _
      | exact LeO.none _
      | refine LeO.ite ?_ ?_
      | refine LeO.bind ?_ (fun _ => ?_)
theorem flotillaref04_over.mono : ∀ a0 a1 k, LeO (flotillaref04_over.f k a0 a1) (flotillaref04_over.f (k + 1) a0 a1) := by
  intro a0 a1 k
  have ih0 := flotillaref04_over.mono_l k
  unfold flotillaref04_over.f
  repeat' first
      | (with_reducible exact ih0 _ _ _ _)
      | (with_reducible exact LeO.refl _)
      | (with_reducible exact LeO.none _)
      | (with_reducible refine LeO.ite ?_ ?_)
      | (with_reducible refine LeO.bind ?_ (fun _ => ?_))
      | exact ih0 _ _ _ _
      | exact LeO.none _
      | refine LeO.ite ?_ ?_
      | refine LeO.bind ?_ (fun _ => ?_)
set_option maxHeartbeats 8000000 in
set_option maxRecDepth 100000 in
theorem flotillaref04_over.calls (k : Nat) (A0 : Option Addr) (c0 : Nat) (l0 : List Int) (a1 : Int) (r : Int) (w : World) (hr0 : Kd.C (Kd.int .u32) w A0 l0.length l0) (hc0 : l0.length ≤ c0) (h : flotillaref04_over.f k l0 a1 = some r) :
    Calls Tryd.prog 29 #[.slice A0 l0.length c0, .int .u32 a1] w fun e w' => e = .returned (.int .u32 r) ∧ Drawn0 w w' := by
  have HR0 := Aside0.mk hr0
  have HC0 := Aside0.mk hc0
  clear hr0 hc0
  have H : (flotillaref04_over.l0 k l0 a1 0 0) = some r := h
  clear h
  have H' := Aside0.mk H
  clear H
  go_enter Tryd.func29, Tryd.ntmps29
  go_wp2
  go_loopg [5, 6] k (fun kq v5 v6 w' => ∃ (x5_1 : Int) (x6_1 : Int), v5 = .int .u32 x5_1 ∧ v6 = .int .i64 x6_1 ∧ Aside0 (flotillaref04_over.l0 kq l0 a1 x5_1 x6_1 = some r) ∧ Aside0 (kq ≤ k) ∧ Drawn0 w w')
  case atStart => exact ⟨(0), (0), (by first | rfl | (simp; done) | (simp [*]; done)), (by first | rfl | (simp; done) | (simp [*]; done)), H', ⟨Nat.le_refl _⟩, by repeat (first | exact Drawn0.refl _ | apply Drawn0.step)⟩
  case round =>
    clear H'
    try clear c2
    try clear p2
    obtain ⟨x5_1, x6_1, rfl, rfl, HA, HK1, ⟨m1, rfl⟩⟩ := hrel
    cases gk with
    | zero => exact absurd HA.out (by simp [flotillaref04_over.l0])
    | succ k1 =>
      have H := HA.out
      clear HA
      simp only [flotillaref04_over.l0] at H
      by_cases c3 : x6_1 < 32
      · rw [if_pos c3] at H
        have c3b0 : decide (x6_1 < 32) = true := decide_eq_true c3
        clear c3
        by_cases c4 : 0 ≤ x6_1
        · rw [if_pos c4] at H
          have c4b0 := eq_true c4
          have c4b1 : decide (0 ≤ x6_1) = true := decide_eq_true c4
          clear c4
          obtain ⟨ji5, hji5⟩ : ∃ j_ : Int, (shr .u32 a1 x6_1) = j_ := ⟨_, rfl⟩
          replace H : (if (Go.bits .and .u32 (ji5) 1) = 1 then (if x6_1 < (l0.length : Int) then (flotillaref04_over.l0 k1 l0 a1 (Go.bits .xor .u32 x5_1 (rd l0 x6_1)) (wrap64 (x6_1 + 1))) else (none)) else (flotillaref04_over.l0 k1 l0 a1 x5_1 (wrap64 (x6_1 + 1)))) = some r := by first | (rw [hji5] at H; exact H) | (simp only [hji5] at H ⊢; exact H)
          have hji5_ : (a1 / 2 ^ min x6_1.toNat 32) = ji5 := hji5
          have hji5z : x6_1 ≤ 32 → (a1 / 2 ^ x6_1.toNat) = ji5 := shr_small hji5
          by_cases c6 : (Go.bits .and .u32 (ji5) 1) = 1
          · rw [if_pos c6] at H
            have c6b0 : ((Go.bits .and .u32 (ji5) 1) == 1) = true := beq_iff_eq.mpr c6
            have c6b1 : ((Go.bits .and .u32 (ji5) 1) != 1) = false := bne_eq_false_iff_eq.mpr c6
            clear c6
            by_cases c7 : x6_1 < (l0.length : Int)
            · rw [if_pos c7] at H
              have c7b0 : decide (x6_1 < (l0.length : Int)) = true := decide_eq_true c7
              clear c7
              have H' := Aside0.mk H
              clear H
              have p101 : 0 ≤ (x6_1 : Int) := of_decide_eq_true (by first | (with_reducible assumption) | assumption)
              have q101 : x6_1 < (l0.length : Int) := of_decide_eq_true (by first | (with_reducible assumption) | assumption)
              obtain ⟨ad101, e101, hx101_0⟩ := Kd.at_int HR0.out x6_1 p101 q101
              cases e101
              replace p101 := eq_true p101
              replace q101 := eq_true q101
              go_wp2
              go_roundg k1
              case measure => have := HK1.out; omega
              case rel => exact ⟨(Go.bits .xor .u32 x5_1 (rd l0 x6_1)), (wrap64 (x6_1 + 1)), (by first | rfl | (simp; done) | (simp [*]; done)), (by first | rfl | (simp; done) | (simp [*]; done)), H', ⟨by have := HK1.out; omega⟩, by repeat (first | exact Drawn0.refl _ | apply Drawn0.step)⟩
            · rw [if_neg c7] at H
              exact absurd H (by simp)
          · rw [if_neg c6] at H
            have c6b0 : ((Go.bits .and .u32 (ji5) 1) == 1) = false := beq_eq_false_iff_ne.mpr c6
            have c6b1 : ((Go.bits .and .u32 (ji5) 1) != 1) = true := bne_iff_ne.mpr c6
            have H' := Aside0.mk H
            clear H
            go_wp2
            go_roundg k1
            case measure => have := HK1.out; omega
            case rel => exact ⟨(x5_1), (wrap64 (x6_1 + 1)), (by first | rfl | (simp; done) | (simp [*]; done)), (by first | rfl | (simp; done) | (simp [*]; done)), H', ⟨by have := HK1.out; omega⟩, by repeat (first | exact Drawn0.refl _ | apply Drawn0.step)⟩
        · rw [if_neg c4] at H
          exact absurd H (by simp)
      · rw [if_neg c3] at H
        have c3b0 : decide (x6_1 < 32) = false := decide_eq_false c3
        clear c3
        obtain rfl := Option.some.inj H
        go_wp2
        go_ret
        exact ⟨by first | rfl | (simp; done) | (simp [*]; done), by repeat (first | exact Drawn0.refl _ | apply Drawn0.step)⟩
/-- A table as the reference has it. -/
def flotillaref04_over.tab (M : Nat) : List Int := (List.range 32).map fun i => ((Go.Proofs.YtckihppdjoianaaDoor.Crc.it M (2 ^ i) : Nat) : Int)
theorem flotillaref04_over.tab_len (M : Nat) : (flotillaref04_over.tab M).length = 32 := by simp [flotillaref04_over.tab]
theorem flotillaref04_over.tab_rd (M i : Nat) (h : i < 32) : rd (flotillaref04_over.tab M) (i : Int) = ((Go.Proofs.YtckihppdjoianaaDoor.Crc.it M (2 ^ i) : Nat) : Int) := by
  rw [rd_nat]
  simp [flotillaref04_over.tab, h]
attribute [irreducible] flotillaref04_over.tab
theorem flotillaref04_over.bit (r i : Nat) (hr : r < 2 ^ 32) (hi : i < 32) : (Go.bits .and .u32 (shr .u32 (r : Int) (i : Int)) 1 = 1) ↔ r / 2 ^ i % 2 = 1 := by
  rw [shr_nat .u32 r i (by simp [IntKind.bits]; omega)]
  have h := Go.Proofs.YtckihppdjoianaaDoor.Crc.bits_and (a := r / 2 ^ i) (b := 1) (Nat.lt_of_le_of_lt (Nat.div_le_self _ _) hr) (by decide)
  rw [show ((1 : Nat) : Int) = 1 from rfl, Go.Proofs.YtckihppdjoianaaDoor.Crc.and_one] at h
  rw [h]
  omega
theorem flotillaref04_over.loop (M r : Nat) (hr : r < 2 ^ 32) : ∀ d i : Nat, i + d = 32 → Ev (fun k => flotillaref04_over.l0 k (flotillaref04_over.tab M) (r : Int) ((Go.Proofs.YtckihppdjoianaaDoor.Crc.it M (r % 2 ^ i) : Nat) : Int) (i : Int)) ((Go.Proofs.YtckihppdjoianaaDoor.Crc.it M r : Nat) : Int) := by
  intro d
  induction d with
  | zero =>
    intro i hi
    refine Ev.step (fun _ => by simp only [flotillaref04_over.l0]; rfl) ?_
    refine Ev.neg (by omega) ?_
    obtain rfl : i = 32 := by omega
    rw [Nat.mod_eq_of_lt hr]
    exact Ev.now _
  | succ d ih =>
    intro i hi
    have hlt : i < 32 := by omega
    have hn := ih (i + 1) (by omega)
    refine Ev.step (fun _ => by simp only [flotillaref04_over.l0]; rfl) ?_
    refine Ev.pos (by omega) (Ev.pos (by omega) ?_)
    have hp : (2 : Nat) ^ i < 2 ^ 32 := Nat.pow_lt_pow_right (by decide) hlt
    have hy : Go.Proofs.YtckihppdjoianaaDoor.Crc.it M (r % 2 ^ i) < 2 ^ 32 := Go.Proofs.YtckihppdjoianaaDoor.Crc.it_lt M (Nat.lt_of_le_of_lt (Nat.mod_le _ _) hr)
    rw [wu_one i (by omega)]
    rw [Go.Proofs.YtckihppdjoianaaDoor.Pow.it_mod_succ] at hn
    by_cases hb : r / 2 ^ i % 2 = 1
    · refine Ev.pos ((flotillaref04_over.bit r i hr hlt).2 hb) (Ev.pos (by rw [flotillaref04_over.tab_len]; omega) ?_)
      rw [if_pos hb] at hn
      rw [flotillaref04_over.tab_rd M i hlt, Go.Proofs.YtckihppdjoianaaDoor.Crc.bits_xor hy (Go.Proofs.YtckihppdjoianaaDoor.Crc.it_lt M hp)]
      exact hn
    · refine Ev.neg (fun h => hb ((flotillaref04_over.bit r i hr hlt).1 h)) ?_
      rw [if_neg hb, Nat.xor_zero] at hn
      exact hn
theorem flotillaref04_over.ev (M r : Nat) (hr : r < 2 ^ 32) : Ev (fun k => flotillaref04_over.f k (flotillaref04_over.tab M) (r : Int)) ((Go.Proofs.YtckihppdjoianaaDoor.Crc.it M r : Nat) : Int) := by
  have h := flotillaref04_over.loop M r hr 32 0 rfl
  simp only [Nat.pow_zero, Nat.mod_one, Go.Proofs.YtckihppdjoianaaDoor.Crc.it_zero] at h
  exact h

end Go.Proofs.YtckihppdjoianaaDoor.Print
