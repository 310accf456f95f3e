/- The functions below as plain Lean functions, each with the proof that the calls come to it; written by a program over the kit's print. -/
import Derived.Test.YtalkodandfjkmaaDoorPrintx0
import Derived.Test.YtalkodandfjkmaaDoorPrintx1
namespace Go.Proofs.YtalkodandfjkmaaDoor.Print
open Go.RowKit Go.Proofs.YtalkodandfjkmaaDoorW.PrintWords Go.Proofs.YtalkodandfjkmaaDoorW.PrintLast Go.Proofs.YtalkodandfjkmaaDoorW.PrintMore
attribute [local go_sem] max2_int min2_int max_two min_two max_three min_three max_four min_four   -- for this text's walks alone
set_option linter.unusedVariables false
set_option linter.unusedSimpArgs false

/-! ### digest_Parse: function 6 -/
def digest_Parse.l0 : Nat → ByteArray → Int → Int → Int → Option (Int × Option Int)
  | 0, _, _, _, _ => none
  | k + 1, x0, x4, x12, x13 => if x13 < x12 then (if 0 ≤ x13 then (if x13 < (x0.size : Int) then ((strings_IndexByte.f (⟨#[97, 98, 99, 100, 101, 102, 103, 104, 105, 106, 107, 108, 109, 110, 111, 112, 113, 114, 115, 116, 117, 118, 119, 120, 121, 122, 50, 51, 52, 53, 54, 55]⟩ : ByteArray) (bt x0 x13)).bind fun t101 => (if t101 < 0 then (some (0, some 4)) else (if x13 = 0 then (if t101 > 15 then (some (0, some 4)) else (digest_Parse.l0 k x0 (Go.bits .or .u64 (IntKind.u64.wrap (x4 * 32)) (IntKind.u64.wrap (t101))) x12 (wrap64 (x13 + 1)))) else (digest_Parse.l0 k x0 (Go.bits .or .u64 (IntKind.u64.wrap (x4 * 32)) (IntKind.u64.wrap (t101))) x12 (wrap64 (x13 + 1)))))) else (none)) else (none)) else (some (x4, none))
def digest_Parse.f (k : Nat) (a0 : ByteArray) : Option (Int × Option Int) := if (a0.size : Int) = 13 then (digest_Parse.l0 k a0 0 (a0.size : Int) 0) else (some (0, some 4))
theorem digest_Parse.mono_l : ∀ k, (∀ y0 y1 y2 y3, LeO (digest_Parse.l0 k y0 y1 y2 y3) (digest_Parse.l0 (k + 1) y0 y1 y2 y3))
  | 0 => fun _ _ _ _ r h => by simp [digest_Parse.l0] at h
  | k + 1 => by
    have ih0 := digest_Parse.mono_l k
    · intro y0 y1 y2 y3
      unfold digest_Parse.l0
      repeat' first
      | (with_reducible exact ih0 _ _ _ _)
      | (with_reducible exact LeO.refl _)
      | (with_reducible exact LeO.none _)
      | (with_reducible refine LeO.ite ?_ ?_)
      | (with_reducible refine LeO.bind ?_ (fun _ => ?_))
      | exact ih0 _ _ _ _
      | exact LeO.none _
      | refine LeO.ite ?_ ?_
      | refine LeO.bind ?_ (fun _ => ?_)
theorem digest_Parse.mono : ∀ a0 k, LeO (digest_Parse.f k a0) (digest_Parse.f (k + 1) a0) := by
  intro a0 k
  have ih0 := digest_Parse.mono_l k
  unfold digest_Parse.f
  repeat' first
      | (with_reducible exact ih0 _ _ _ _)
      | (with_reducible exact LeO.refl _)
      | (with_reducible exact LeO.none _)
      | (with_reducible refine LeO.ite ?_ ?_)
      | (with_reducible refine LeO.bind ?_ (fun _ => ?_))
      | exact ih0 _ _ _ _
      | exact LeO.none _
      | refine LeO.ite ?_ ?_
      | refine LeO.bind ?_ (fun _ => ?_)
set_option maxHeartbeats 8000000 in
set_option maxRecDepth 100000 in
theorem digest_Parse.calls (k : Nat) (a0 : ByteArray) (r1 : Int) (r2 : Option Int) (w : World) (h : digest_Parse.f k a0 = some (r1, r2)) :
    Calls Tryd.prog 6 #[.string a0] w fun e w' => e = .returned (.tuple #[.int .u64 r1, errW r2]) ∧ Drawn0 w w' := by
  have hu26 := Tryd.underlying26
  have hu46 := Tryd.underlying46
  have H : (if (a0.size : Int) = 13 then (digest_Parse.l0 k a0 0 (a0.size : Int) 0) else (some (0, some 4))) = some (r1, r2) := h
  clear h
  by_cases c2 : (a0.size : Int) = 13
  · rw [if_pos c2] at H
    have c2b0 : ((a0.size : Int) == 13) = true := beq_iff_eq.mpr c2
    have c2b1 : ((a0.size : Int) != 13) = false := bne_eq_false_iff_eq.mpr c2
    clear c2
    have H' := Aside0.mk H
    clear H
    go_enter Tryd.func6, Tryd.ntmps6
    go_wp2
    go_loopg [4, 13] k (fun kq v4 v13 w' => ∃ (x4_1 : Int) (x13_1 : Int), v4 = .int .u64 x4_1 ∧ v13 = .int .i64 x13_1 ∧ Aside0 (digest_Parse.l0 kq a0 x4_1 (a0.size : Int) x13_1 = some (r1, r2)) ∧ Aside0 (kq ≤ k) ∧ Drawn0 w w')
    case atStart => exact ⟨(0), (0), (by first | rfl | (simp; done) | (simp [*]; done)), (by first | rfl | (simp; done) | (simp [*]; done)), H', ⟨Nat.le_refl _⟩, by repeat (first | exact Drawn0.refl _ | apply Drawn0.step)⟩
    case round =>
      clear H'
      try clear c2
      try clear c2b0
      try clear c2b1
      try clear p2
      obtain ⟨x4_1, x13_1, rfl, rfl, HA, HK1, ⟨m1, rfl⟩⟩ := hrel
      cases gk with
      | zero => exact absurd HA.out (by simp [digest_Parse.l0])
      | succ k1 =>
        have H := HA.out
        clear HA
        simp only [digest_Parse.l0] at H
        by_cases c3 : x13_1 < (a0.size : Int)
        · rw [if_pos c3] at H
          have c3b0 : decide (x13_1 < (a0.size : Int)) = true := decide_eq_true c3
          clear c3
          by_cases c4 : 0 ≤ x13_1
          · rw [if_pos c4] at H
            have c4b0 : decide (0 ≤ x13_1) = true := decide_eq_true c4
            clear c4
            by_cases c5 : x13_1 < (a0.size : Int)
            · rw [if_pos c5] at H
              have c5b0 : decide (x13_1 < (a0.size : Int)) = true := decide_eq_true c5
              clear c5
              replace H := Option.bind_eq_some_iff.mp H
              obtain ⟨t101, A70, H⟩ := H
              replace H : (if t101 < 0 then (some (0, some 4)) else (if x13_1 = 0 then (if t101 > 15 then (some (0, some 4)) else (digest_Parse.l0 k1 a0 (Go.bits .or .u64 (IntKind.u64.wrap (x4_1 * 32)) (IntKind.u64.wrap (t101))) (a0.size : Int) (wrap64 (x13_1 + 1)))) else (digest_Parse.l0 k1 a0 (Go.bits .or .u64 (IntKind.u64.wrap (x4_1 * 32)) (IntKind.u64.wrap (t101))) (a0.size : Int) (wrap64 (x13_1 + 1))))) = some (r1, r2) := H
              have A7 := Aside0.mk A70
              clear A70
              by_cases c8 : t101 < 0
              · rw [if_pos c8] at H
                have c8b0 : decide (t101 < 0) = true := decide_eq_true c8
                clear c8
                simp only [Option.some.injEq, Prod.mk.injEq] at H
                obtain ⟨rfl, rfl⟩ := H
                have p6 : 0 ≤ (x13_1 : Int) := of_decide_eq_true (by first | (with_reducible assumption) | assumption)
                have q6 : x13_1 < (a0.size : Int) := of_decide_eq_true (by first | (with_reducible assumption) | assumption)
                have hx6 := bt_at a0 x13_1
                replace p6 := eq_true p6
                replace q6 := eq_true q6
                go_wp2_with (first | ((with_reducible refine gate_callee (f := 14) rfl ?_); refine goesL_ (some 19) rfl rfl Tryd.func14 (by kernel_rfl) rfl #[.string (⟨#[97, 98, 99, 100, 101, 102, 103, 104, 105, 106, 107, 108, 109, 110, 111, 112, 113, 114, 115, 116, 117, 118, 119, 120, 121, 122, 50, 51, 52, 53, 54, 55]⟩ : ByteArray), .int .u8 (bt a0 x13_1)] rfl (by (try simp only [List.map_toArray, List.map_cons, List.map_nil]); first | done | rfl | (simp only [List.length_drop, List.length_take]; rfl)) ?_; (with_reducible refine (strings_IndexByte.calls (⟨#[97, 98, 99, 100, 101, 102, 103, 104, 105, 106, 107, 108, 109, 110, 111, 112, 113, 114, 115, 116, 117, 118, 119, 120, 121, 122, 50, 51, 52, 53, 54, 55]⟩ : ByteArray) (bt a0 x13_1) t101 _ A7.out).mono ?_); rintro e w' ⟨rfl, ⟨nd, rfl⟩⟩; refine ⟨_, rfl, ?_⟩))
                go_ret2
                exact ⟨by first | rfl | (simp; done) | (simp [*]; done), by repeat (first | exact Drawn0.refl _ | apply Drawn0.step)⟩
              · rw [if_neg c8] at H
                have c8b0 : decide (t101 < 0) = false := decide_eq_false c8
                clear c8
                by_cases c9 : x13_1 = 0
                · rw [if_pos c9] at H
                  have c9b0 : (x13_1 == 0) = true := beq_iff_eq.mpr c9
                  have c9b1 : (x13_1 != 0) = false := bne_eq_false_iff_eq.mpr c9
                  clear c9
                  by_cases c10 : t101 > 15
                  · rw [if_pos c10] at H
                    have c10b0 : decide (15 < t101) = true := decide_eq_true c10
                    clear c10
                    simp only [Option.some.injEq, Prod.mk.injEq] at H
                    obtain ⟨rfl, rfl⟩ := H
                    have p6 : 0 ≤ (x13_1 : Int) := of_decide_eq_true (by first | (with_reducible assumption) | assumption)
                    have q6 : x13_1 < (a0.size : Int) := of_decide_eq_true (by first | (with_reducible assumption) | assumption)
                    have hx6 := bt_at a0 x13_1
                    replace p6 := eq_true p6
                    replace q6 := eq_true q6
                    go_wp2_with (first | ((with_reducible refine gate_callee (f := 14) rfl ?_); refine goesL_ (some 19) rfl rfl Tryd.func14 (by kernel_rfl) rfl #[.string (⟨#[97, 98, 99, 100, 101, 102, 103, 104, 105, 106, 107, 108, 109, 110, 111, 112, 113, 114, 115, 116, 117, 118, 119, 120, 121, 122, 50, 51, 52, 53, 54, 55]⟩ : ByteArray), .int .u8 (bt a0 x13_1)] rfl (by (try simp only [List.map_toArray, List.map_cons, List.map_nil]); first | done | rfl | (simp only [List.length_drop, List.length_take]; rfl)) ?_; (with_reducible refine (strings_IndexByte.calls (⟨#[97, 98, 99, 100, 101, 102, 103, 104, 105, 106, 107, 108, 109, 110, 111, 112, 113, 114, 115, 116, 117, 118, 119, 120, 121, 122, 50, 51, 52, 53, 54, 55]⟩ : ByteArray) (bt a0 x13_1) t101 _ A7.out).mono ?_); rintro e w' ⟨rfl, ⟨nd, rfl⟩⟩; refine ⟨_, rfl, ?_⟩))
                    go_ret2
                    exact ⟨by first | rfl | (simp; done) | (simp [*]; done), by repeat (first | exact Drawn0.refl _ | apply Drawn0.step)⟩
                  · rw [if_neg c10] at H
                    have c10b0 : decide (15 < t101) = false := decide_eq_false c10
                    clear c10
                    have H' := Aside0.mk H
                    clear H
                    have p6 : 0 ≤ (x13_1 : Int) := of_decide_eq_true (by first | (with_reducible assumption) | assumption)
                    have q6 : x13_1 < (a0.size : Int) := of_decide_eq_true (by first | (with_reducible assumption) | assumption)
                    have hx6 := bt_at a0 x13_1
                    replace p6 := eq_true p6
                    replace q6 := eq_true q6
                    go_wp2_with (first | ((with_reducible refine gate_callee (f := 14) rfl ?_); refine goesL_ (some 19) rfl rfl Tryd.func14 (by kernel_rfl) rfl #[.string (⟨#[97, 98, 99, 100, 101, 102, 103, 104, 105, 106, 107, 108, 109, 110, 111, 112, 113, 114, 115, 116, 117, 118, 119, 120, 121, 122, 50, 51, 52, 53, 54, 55]⟩ : ByteArray), .int .u8 (bt a0 x13_1)] rfl (by (try simp only [List.map_toArray, List.map_cons, List.map_nil]); first | done | rfl | (simp only [List.length_drop, List.length_take]; rfl)) ?_; (with_reducible refine (strings_IndexByte.calls (⟨#[97, 98, 99, 100, 101, 102, 103, 104, 105, 106, 107, 108, 109, 110, 111, 112, 113, 114, 115, 116, 117, 118, 119, 120, 121, 122, 50, 51, 52, 53, 54, 55]⟩ : ByteArray) (bt a0 x13_1) t101 _ A7.out).mono ?_); rintro e w' ⟨rfl, ⟨nd, rfl⟩⟩; refine ⟨_, rfl, ?_⟩))
                    go_roundg k1
                    case measure => have := HK1.out; omega
                    case rel => exact ⟨(Go.bits .or .u64 (IntKind.u64.wrap (x4_1 * 32)) (IntKind.u64.wrap (t101))), (wrap64 (x13_1 + 1)), (by first | rfl | (simp; done) | (simp [*]; done)), (by first | rfl | (simp; done) | (simp [*]; done)), H', ⟨by have := HK1.out; omega⟩, by repeat (first | exact Drawn0.refl _ | apply Drawn0.step)⟩
                · rw [if_neg c9] at H
                  have c9b0 : (x13_1 == 0) = false := beq_eq_false_iff_ne.mpr c9
                  have c9b1 : (x13_1 != 0) = true := bne_iff_ne.mpr c9
                  have H' := Aside0.mk H
                  clear H
                  have p6 : 0 ≤ (x13_1 : Int) := of_decide_eq_true (by first | (with_reducible assumption) | assumption)
                  have q6 : x13_1 < (a0.size : Int) := of_decide_eq_true (by first | (with_reducible assumption) | assumption)
                  have hx6 := bt_at a0 x13_1
                  replace p6 := eq_true p6
                  replace q6 := eq_true q6
                  go_wp2_with (first | ((with_reducible refine gate_callee (f := 14) rfl ?_); refine goesL_ (some 19) rfl rfl Tryd.func14 (by kernel_rfl) rfl #[.string (⟨#[97, 98, 99, 100, 101, 102, 103, 104, 105, 106, 107, 108, 109, 110, 111, 112, 113, 114, 115, 116, 117, 118, 119, 120, 121, 122, 50, 51, 52, 53, 54, 55]⟩ : ByteArray), .int .u8 (bt a0 x13_1)] rfl (by (try simp only [List.map_toArray, List.map_cons, List.map_nil]); first | done | rfl | (simp only [List.length_drop, List.length_take]; rfl)) ?_; (with_reducible refine (strings_IndexByte.calls (⟨#[97, 98, 99, 100, 101, 102, 103, 104, 105, 106, 107, 108, 109, 110, 111, 112, 113, 114, 115, 116, 117, 118, 119, 120, 121, 122, 50, 51, 52, 53, 54, 55]⟩ : ByteArray) (bt a0 x13_1) t101 _ A7.out).mono ?_); rintro e w' ⟨rfl, ⟨nd, rfl⟩⟩; refine ⟨_, rfl, ?_⟩))
                  go_roundg k1
                  case measure => have := HK1.out; omega
                  case rel => exact ⟨(Go.bits .or .u64 (IntKind.u64.wrap (x4_1 * 32)) (IntKind.u64.wrap (t101))), (wrap64 (x13_1 + 1)), (by first | rfl | (simp; done) | (simp [*]; done)), (by first | rfl | (simp; done) | (simp [*]; done)), H', ⟨by have := HK1.out; omega⟩, by repeat (first | exact Drawn0.refl _ | apply Drawn0.step)⟩
            · rw [if_neg c5] at H
              exact absurd H (by simp)
          · rw [if_neg c4] at H
            exact absurd H (by simp)
        · rw [if_neg c3] at H
          have c3b0 : decide (x13_1 < (a0.size : Int)) = false := decide_eq_false c3
          clear c3
          simp only [Option.some.injEq, Prod.mk.injEq] at H
          obtain ⟨rfl, rfl⟩ := H
          go_wp2
          go_ret2
          exact ⟨by first | rfl | (simp; done) | (simp [*]; done), by repeat (first | exact Drawn0.refl _ | apply Drawn0.step)⟩
  · rw [if_neg c2] at H
    have c2b0 : ((a0.size : Int) == 13) = false := beq_eq_false_iff_ne.mpr c2
    have c2b1 : ((a0.size : Int) != 13) = true := bne_iff_ne.mpr c2
    simp only [Option.some.injEq, Prod.mk.injEq] at H
    obtain ⟨rfl, rfl⟩ := H
    go_enter Tryd.func6, Tryd.ntmps6
    go_wp2
    go_ret2
    exact ⟨by first | rfl | (simp; done) | (simp [*]; done), by repeat (first | exact Drawn0.refl _ | apply Drawn0.step)⟩
def digest_Parse.told (r : Option Int) : Int × Option Int := match r with | some y => (y, none) | none => (0, some 4)
theorem digest_Parse.next (i : Nat) (h : i < 13) : wrap64 ((i : Int) + 1) = ((i + 1 : Nat) : Int) := by
  rw [IntWalk.wrap64_in _ ⟨by omega, by omega⟩]; rfl
theorem digest_Parse.loop (s : ByteArray) (hs : s.size = 13) (d : Nat) : ∀ (k i : Nat) (x : Int), i + d = 13 → d < k → 0 ≤ x → x < Dig.cap i →
    digest_Parse.l0 k s x (s.size : Int) (i : Int) = some (digest_Parse.told (Dig.pars (s.data.toList.drop i) (i == 0) x)) := by
  have hsz : s.data.toList.length = 13 := by rw [Array.length_toList]; exact hs
  induction d with
  | zero =>
    intro k i x hi hk h0 h1
    obtain ⟨k, rfl⟩ : ∃ m, k = m + 1 := ⟨k - 1, by omega⟩
    simp only [digest_Parse.l0]
    rw [if_neg (by omega), List.drop_eq_nil_of_le (by omega)]
    rfl
  | succ d ih =>
    intro k i x hi hk h0 h1
    obtain ⟨k, rfl⟩ : ∃ m, k = m + 1 := ⟨k - 1, by omega⟩
    simp only [digest_Parse.l0]
    have hil : i < s.data.toList.length := by omega
    rw [if_pos (by omega), if_pos (by omega), if_pos (by omega)]
    have hb : bt s (i : Int) = ((s.data.toList[i]'hil).toNat : Int) := by
      unfold bt
      rw [dif_pos (show (i : Int).toNat < s.size by omega)]
      rfl
    have hf : strings_IndexByte.f (⟨#[97, 98, 99, 100, 101, 102, 103, 104, 105, 106, 107, 108, 109, 110, 111, 112, 113, 114, 115, 116, 117, 118, 119, 120, 121, 122, 50, 51, 52, 53, 54, 55]⟩ : ByteArray) (bt s (i : Int)) = some (Dig.val (s.data.toList[i]'hil)) := by
      unfold strings_IndexByte.f
      rw [hb]
      simp only [Int.toNat_natCast, Nat.toUInt8_eq, UInt8.ofNat_toNat]
      rfl
    rw [hf, List.drop_eq_getElem_cons hil]
    generalize s.data.toList[i]'hil = c
    simp only [Option.bind_some, Dig.pars]
    have hv := Dig.val_lt c
    by_cases c1 : Dig.val c < 0
    · rw [if_pos c1, if_pos c1]; rfl
    · rw [if_neg c1, if_neg c1]
      have hcap : i ≠ 0 → x * 32 + Dig.val c < Dig.cap (i + 1) := by
        intro hi0
        rw [Dig.cap_succ i hi0]; omega
      have hmax := Dig.cap_max i (by omega)
      by_cases c2 : (i : Int) = 0
      · rw [if_pos c2]
        obtain rfl : i = 0 := by omega
        by_cases c3 : Dig.val c > 15
        · rw [if_pos c3, if_pos ⟨by simp, c3⟩]; rfl
        · rw [if_neg c3, if_neg (fun h => c3 h.2)]
          rw [Dig.cap_zero] at h1
          have hx1 : x * 32 + Dig.val c < Dig.cap 1 := by rw [Dig.cap_one]; omega
          rw [Dig.or_add x (Dig.val c) h0 (by omega) hv (by omega), digest_Parse.next 0 (by omega)]
          have := ih k 1 (x * 32 + Dig.val c) (by omega) (by omega) (by omega) hx1
          exact this
      · rw [if_neg c2, if_neg (fun h => c2 (by simpa using h.1))]
        have hi0 : i ≠ 0 := by omega
        rw [Dig.or_add x (Dig.val c) h0 (by omega) hv (by have := hcap hi0; omega), digest_Parse.next i (by omega)]
        have := ih k (i + 1) (x * 32 + Dig.val c) (by omega) (by omega) (by omega) (hcap hi0)
        simpa using this
theorem digest_Parse.spec (s : ByteArray) (k : Nat) (hk : 13 < k) : digest_Parse.f k s = some (if s.size = 13 then digest_Parse.told (Dig.pars s.data.toList true 0) else (0, some 4)) := by
  unfold digest_Parse.f
  by_cases h : s.size = 13
  · rw [if_pos (by omega), if_pos h]
    exact digest_Parse.loop s h 13 k 0 0 (by omega) hk (by omega) (by rw [Dig.cap_zero]; omega)
  · rw [if_neg (by omega), if_neg h]
theorem digest_Parse.text (h : Int) (hh : Dig.U64 h) (k : Nat) (hk : 13 < k) : digest_Parse.f k (Dig.textB h) = some (h, none) := by
  rw [digest_Parse.spec _ k hk, if_pos (show (Dig.textB h).size = 13 from rfl)]
  have e : (Dig.textB h).data.toList = (List.range' 0 13).map fun j => Dig.letter (Dig.five h (12 - j)) := rfl
  have e0 : h / 32 ^ (13 - 0) = 0 := by
    rw [show 13 - 0 = 13 from rfl, Dig.pow_13]
    have := hh.1; have := hh.2
    omega
  have := Dig.pars_text h hh 13 0 rfl
  rw [e0] at this
  rw [e]
  simp only [beq_self_eq_true] at this
  rw [this]
  rfl
theorem digest_Parse.back (s : ByteArray) (y : Int) (k : Nat) (hk : 13 < k) (h : digest_Parse.f k s = some (y, none)) : Dig.textB y = s := by
  rw [digest_Parse.spec _ k hk] at h
  split at h
  · rename_i hs
    have hsz : s.data.toList.length = 13 := by rw [Array.length_toList]; exact hs
    cases hp : Dig.pars s.data.toList true 0 with
    | none => rw [hp] at h; simp [digest_Parse.told] at h
    | some z =>
      rw [hp] at h
      simp only [digest_Parse.told, Option.some.injEq, Prod.mk.injEq, and_true] at h
      subst h
      have hc := Dig.pars_cap s.data.toList 0 0 z (by omega) (by rw [Dig.cap_zero]; omega) (by simpa using hp)
      rw [hsz] at hc
      obtain ⟨h0, h1, h2⟩ := Dig.pars_back s.data.toList true 0 z (by omega) hp
      have hu : Dig.U64 z := ⟨h0, by rw [Dig.cap_13] at hc; exact hc⟩
      have e : (Dig.textB z).data.toList = s.data.toList := by
        apply List.ext_getElem?
        intro j
        have e1 : (Dig.textB z).data.toList = (List.range' 0 13).map fun j => Dig.letter (Dig.five z (12 - j)) := rfl
        by_cases hj : j < 13
        · have hjs : j < s.data.toList.length := by omega
          rw [List.getElem?_eq_getElem hjs, h2 j _ (List.getElem?_eq_getElem hjs), e1, List.getElem?_map, List.getElem?_range' hj, hsz]
          simp only [Option.map_some, Nat.zero_add, Nat.one_mul]
          rw [Dig.five_eq z hu]
        · rw [List.getElem?_eq_none (l := s.data.toList) (by omega), e1, List.getElem?_eq_none (by rw [List.length_map, List.length_range']; omega)]
      have e3 : (Dig.textB z).data = s.data := Array.toList_inj.1 e
      cases s with
      | mk d => exact congrArg ByteArray.mk e3
  · simp at h

end Go.Proofs.YtalkodandfjkmaaDoor.Print
