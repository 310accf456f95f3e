/- The functions below as plain Lean functions, each with the proof that the calls come to it; written by a program over the kit's print. -/
import Derived.Test.YtckihppdjoianaaDoorPrintx0
import Derived.Test.YtckihppdjoianaaDoorPrintx1
namespace Go.Proofs.YtckihppdjoianaaDoor.Print
open Go.RowKit Go.Proofs.YtckihppdjoianaaDoorW.PrintWords Go.Proofs.YtckihppdjoianaaDoorW.PrintLast Go.Proofs.YtckihppdjoianaaDoorW.PrintMore
attribute [local go_sem] max2_int min2_int max_two min_two max_three min_three max_four min_four   -- for this text's walks alone
set_option linter.unusedVariables false
set_option linter.unusedSimpArgs false

/-! ### sum_More: function 19 -/
def sum_More.l0 : Nat → Int → List Int → Int → Int → Option (Int)
  | 0, _, _, _, _ => none
  | k + 1, x5, x10, x11, x12 => if x12 < x11 then (if 0 ≤ x12 then (if x12 < (x10.length : Int) then ((sum_byteful.f k (Go.bits .xor .u32 x5 ((rd x10 x12) % 4294967296))).bind fun t115 => (sum_More.l0 k t115 x10 x11 (wrap64 (x12 + 1)))) else (none)) else (none)) else (some (Go.bits .xor .u32 4294967295 x5))
def sum_More.f (k : Nat) (a0 : Int) (l1 : List Int) : Option (Int) := sum_More.l0 k (Go.bits .xor .u32 4294967295 a0) l1 (l1.length : Int) 0
theorem sum_More.mono_l : ∀ k, (∀ y0 y1 y2 y3, LeO (sum_More.l0 k y0 y1 y2 y3) (sum_More.l0 (k + 1) y0 y1 y2 y3))
  | 0 => fun _ _ _ _ r h => by simp [sum_More.l0] at h
  | k + 1 => by
    have ih0 := sum_More.mono_l k
    · intro y0 y1 y2 y3
      unfold sum_More.l0
      repeat' first
      | (with_reducible exact ih0 _ _ _ _)
      | (with_reducible exact sum_byteful.mono _ _)
      | (with_reducible exact LeO.refl _)
      | (with_reducible exact LeO.none _)
      | (with_reducible refine LeO.ite ?_ ?_)
      | (with_reducible refine LeO.bind ?_ (fun _ => ?_))
      | exact ih0 _ _ _ _
      | exact sum_byteful.mono _ _
      | exact LeO.none _
      | refine LeO.ite ?_ ?_
      | refine LeO.bind ?_ (fun _ => ?_)
theorem sum_More.mono : ∀ a0 a1 k, LeO (sum_More.f k a0 a1) (sum_More.f (k + 1) a0 a1) := by
  intro a0 a1 k
  have ih0 := sum_More.mono_l k
  unfold sum_More.f
  repeat' first
      | (with_reducible exact ih0 _ _ _ _)
      | (with_reducible exact sum_byteful.mono _ _)
      | (with_reducible exact LeO.refl _)
      | (with_reducible exact LeO.none _)
      | (with_reducible refine LeO.ite ?_ ?_)
      | (with_reducible refine LeO.bind ?_ (fun _ => ?_))
      | exact ih0 _ _ _ _
      | exact sum_byteful.mono _ _
      | exact LeO.none _
      | refine LeO.ite ?_ ?_
      | refine LeO.bind ?_ (fun _ => ?_)
set_option maxHeartbeats 8000000 in
set_option maxRecDepth 100000 in
theorem sum_More.calls (k : Nat) (a0 : Int) (A1 : Option Addr) (c1 : Nat) (l1 : List Int) (r : Int) (w : World) (hr1 : Kd.C (Kd.int .u8) w A1 l1.length l1) (hc1 : l1.length ≤ c1) (h : sum_More.f k a0 l1 = some r) :
    Calls Tryd.prog 19 #[.int .u32 a0, .slice A1 l1.length c1] w fun e w' => e = .returned (.int .u32 r) ∧ Drawn0 w w' := by
  have HR1 := Aside0.mk hr1
  have HC1 := Aside0.mk hc1
  clear hr1 hc1
  have H : (sum_More.l0 k (Go.bits .xor .u32 4294967295 a0) l1 (l1.length : Int) 0) = some r := h
  clear h
  have H' := Aside0.mk H
  clear H
  go_enter Tryd.func19, Tryd.ntmps19
  go_wp2
  go_loopg [5, 12] k (fun kq v5 v12 w' => ∃ (x5_1 : Int) (x12_1 : Int), v5 = .int .u32 x5_1 ∧ v12 = .int .i64 x12_1 ∧ Aside0 (sum_More.l0 kq x5_1 l1 (l1.length : Int) x12_1 = some r) ∧ Aside0 (kq ≤ k) ∧ Drawn0 w w')
  case atStart => exact ⟨(Go.bits .xor .u32 4294967295 a0), (0), (by first | rfl | (simp; done) | (simp [*]; done)), (by first | rfl | (simp; done) | (simp [*]; done)), H', ⟨Nat.le_refl _⟩, by repeat (first | exact Drawn0.refl _ | apply Drawn0.step)⟩
  case round =>
    clear H'
    try clear c1
    try clear p2
    obtain ⟨x5_1, x12_1, rfl, rfl, HA, HK1, ⟨m1, rfl⟩⟩ := hrel
    cases gk with
    | zero => exact absurd HA.out (by simp [sum_More.l0])
    | succ k1 =>
      have H := HA.out
      clear HA
      simp only [sum_More.l0] at H
      by_cases c3 : x12_1 < (l1.length : Int)
      · rw [if_pos c3] at H
        have c3b0 : decide (x12_1 < (l1.length : Int)) = true := decide_eq_true c3
        clear c3
        by_cases c4 : 0 ≤ x12_1
        · rw [if_pos c4] at H
          have c4b0 : decide (0 ≤ x12_1) = true := decide_eq_true c4
          clear c4
          by_cases c5 : x12_1 < (l1.length : Int)
          · rw [if_pos c5] at H
            have c5b0 : decide (x12_1 < (l1.length : Int)) = true := decide_eq_true c5
            clear c5
            replace H := Option.bind_eq_some_iff.mp H
            obtain ⟨t115, A60, H⟩ := H
            replace H : (sum_More.l0 k1 t115 l1 (l1.length : Int) (wrap64 (x12_1 + 1))) = some r := H
            have A6 := Aside0.mk A60
            clear A60
            have H' := Aside0.mk H
            clear H
            have p114 : 0 ≤ (x12_1 : Int) := of_decide_eq_true (by first | (with_reducible assumption) | assumption)
            have q114 : x12_1 < (l1.length : Int) := of_decide_eq_true (by first | (with_reducible assumption) | assumption)
            obtain ⟨ad114, e114, hx114_0⟩ := Kd.at_int HR1.out x12_1 p114 q114
            cases e114
            replace p114 := eq_true p114
            replace q114 := eq_true q114
            go_wp2_with (first | ((with_reducible refine gate_callee (f := 26) rfl ?_); refine goesL_ (some 20) rfl rfl Tryd.func26 (by kernel_rfl) rfl #[.int .u32 (Go.bits .xor .u32 x5_1 ((rd l1 x12_1) % 4294967296))] rfl (by (try simp only [List.map_toArray, List.map_cons, List.map_nil]); first | done | rfl | (simp only [List.length_drop, List.length_take]; rfl)) ?_; (with_reducible refine (sum_byteful.calls k1 (Go.bits .xor .u32 x5_1 ((rd l1 x12_1) % 4294967296)) t115 _ A6.out).mono ?_); rintro e w' ⟨rfl, ⟨nd, rfl⟩⟩; refine ⟨_, rfl, ?_⟩))
            go_roundg k1
            case measure => have := HK1.out; omega
            case rel => exact ⟨(t115), (wrap64 (x12_1 + 1)), (by first | rfl | (simp; done) | (simp [*]; done)), (by first | rfl | (simp; done) | (simp [*]; done)), H', ⟨by have := HK1.out; omega⟩, by repeat (first | exact Drawn0.refl _ | apply Drawn0.step)⟩
          · rw [if_neg c5] at H
            exact absurd H (by simp)
        · rw [if_neg c4] at H
          exact absurd H (by simp)
      · rw [if_neg c3] at H
        have c3b0 : decide (x12_1 < (l1.length : Int)) = false := decide_eq_false c3
        clear c3
        obtain rfl := Option.some.inj H
        go_wp2
        go_ret
        exact ⟨by first | rfl | (simp; done) | (simp [*]; done), by repeat (first | exact Drawn0.refl _ | apply Drawn0.step)⟩
abbrev sum_More.nats (l : List Int) : List Nat := Go.Proofs.YtckihppdjoianaaDoor.Crc.nats l
theorem sum_More.nats_lt {l : List Int} (h : ∀ x ∈ l, 0 ≤ x ∧ x < 256) : ∀ c ∈ sum_More.nats l, c < 256 := by
  intro c hc
  simp only [Go.Proofs.YtckihppdjoianaaDoor.Crc.nats, List.mem_map] at hc
  obtain ⟨x, hx, rfl⟩ := hc
  have := h x hx
  omega
theorem sum_More.loop (l : List Int) (h : ∀ x ∈ l, 0 ≤ x ∧ x < 256) (hl : l.length < 140737488355328) (m : Nat) : ∀ (d i r : Nat), r < 2 ^ 32 → i + d = l.length →
    sum_More.l0 (m + 10 + d) (r : Int) l (l.length : Int) (i : Int) = some (Go.Proofs.YtckihppdjoianaaDoor.Crc.ones ^^^ Go.Proofs.YtckihppdjoianaaDoor.Crc.crc r ((sum_More.nats l).drop i) : Nat) := by
  intro d
  induction d with
  | zero =>
    intro i r hr hi
    show sum_More.l0 ((m + 9) + 1) _ _ _ _ = _
    simp only [sum_More.l0]
    rw [if_neg (by omega), List.drop_of_length_le (by simp [Go.Proofs.YtckihppdjoianaaDoor.Crc.nats]; omega), Go.Proofs.YtckihppdjoianaaDoor.Crc.not_go hr]
    rfl
  | succ d ih =>
    intro i r hr hi
    show sum_More.l0 ((m + 10 + d) + 1) _ _ _ _ = _
    simp only [sum_More.l0]
    have hlt : i < l.length := by omega
    rw [if_pos (by omega), if_pos (by omega), if_pos (by omega)]
    have hb := h _ (List.getElem_mem hlt)
    have e2 : rd l (i : Int) % 4294967296 = ((l[i].toNat : Nat) : Int) := by
      have : rd l (i : Int) = l[i] := by simp [rd, List.getElem?_eq_getElem hlt]
      rw [this]
      omega
    have hx : r ^^^ l[i].toNat < 2 ^ 32 := Nat.xor_lt_two_pow hr (by omega)
    rw [e2, Go.Proofs.YtckihppdjoianaaDoor.Crc.bits_xor hr (by omega), sum_byteful.spec _ _ hx (by omega)]
    simp only [Option.bind_some]
    have e1 : wrap64 ((i : Int) + 1) = ((i + 1 : Nat) : Int) := by rw [IntWalk.wrap64_in _ ⟨by omega, by omega⟩]; rfl
    rw [e1, ih (i + 1) _ (Go.Proofs.YtckihppdjoianaaDoor.Crc.it_lt 8 hx) (by omega)]
    have e3 : (sum_More.nats l).drop i = l[i].toNat :: (sum_More.nats l).drop (i + 1) := by
      rw [List.drop_eq_getElem_cons (by simp [Go.Proofs.YtckihppdjoianaaDoor.Crc.nats]; omega)]
      simp [Go.Proofs.YtckihppdjoianaaDoor.Crc.nats]
    rw [e3]
    rfl
theorem sum_More.spec (k s : Nat) (hs : s < 2 ^ 32) (l : List Int) (h : ∀ x ∈ l, 0 ≤ x ∧ x < 256) (hl : l.length < 140737488355328) (hk : l.length + 10 ≤ k) :
    sum_More.f k (s : Int) l = some (Go.Proofs.YtckihppdjoianaaDoor.Crc.more s (sum_More.nats l) : Int) := by
  unfold sum_More.f
  rw [Go.Proofs.YtckihppdjoianaaDoor.Crc.not_go hs]
  have := sum_More.loop l h hl (k - l.length - 10) l.length 0 (Go.Proofs.YtckihppdjoianaaDoor.Crc.ones ^^^ s) (Go.Proofs.YtckihppdjoianaaDoor.Crc.not_lt hs) (by omega)
  rw [show k - l.length - 10 + 10 + l.length = k by omega] at this
  exact this

/-! ### sum_Of: function 8 -/
def sum_Of.f (k : Nat) (l0 : List Int) : Option (Int) := (sum_More.f k 0 l0).bind fun t116 => (some t116)
theorem sum_Of.mono : ∀ a0 k, LeO (sum_Of.f k a0) (sum_Of.f (k + 1) a0) := by
  intro a0 k
  unfold sum_Of.f
  repeat' first
      | (with_reducible exact sum_More.mono _ _ _)
      | (with_reducible exact LeO.refl _)
      | (with_reducible exact LeO.none _)
      | (with_reducible refine LeO.ite ?_ ?_)
      | (with_reducible refine LeO.bind ?_ (fun _ => ?_))
      | exact sum_More.mono _ _ _
      | exact LeO.none _
      | refine LeO.ite ?_ ?_
      | refine LeO.bind ?_ (fun _ => ?_)
set_option maxHeartbeats 8000000 in
set_option maxRecDepth 100000 in
theorem sum_Of.calls (k : Nat) (A0 : Option Addr) (c0 : Nat) (l0 : List Int) (r : Int) (w : World) (hr0 : Kd.C (Kd.int .u8) w A0 l0.length l0) (hc0 : l0.length ≤ c0) (h : sum_Of.f k l0 = some r) :
    Calls Tryd.prog 8 #[.slice A0 l0.length c0] w fun e w' => e = .returned (.int .u32 r) ∧ Drawn0 w w' := by
  have HR0 := Aside0.mk hr0
  have HC0 := Aside0.mk hc0
  clear hr0 hc0
  have H : ((sum_More.f k 0 l0).bind fun t116 => (some t116)) = some r := h
  clear h
  replace H := Option.bind_eq_some_iff.mp H
  obtain ⟨t116, A20, H⟩ := H
  replace H : (some t116) = some r := H
  have A2 := Aside0.mk A20
  clear A20
  obtain rfl := Option.some.inj H
  go_enter Tryd.func8, Tryd.ntmps8
  go_wp2_with (first | ((with_reducible refine gate_callee (f := 19) rfl ?_); refine goesL_ (some 4) rfl rfl Tryd.func19 (by kernel_rfl) rfl #[.int .u32 0, .slice A0 l0.length c0] rfl (by (try simp only [List.map_toArray, List.map_cons, List.map_nil]); first | done | rfl | (simp only [List.length_drop, List.length_take]; rfl)) ?_; (with_reducible refine (sum_More.calls k 0 _ _ l0 t116 _ ?side1 ?side2 A2.out).mono ?_); (case side1 => repeat (first | exact HR0.out | (with_reducible refine Kd.C_alloc ?_ _) | (with_reducible refine Kd.C_drewN ?_ _) | (with_reducible refine Kd.C_drew ?_))); (case side2 => exact HC0.out); rintro e w' ⟨rfl, ⟨nd, rfl⟩⟩; refine ⟨_, rfl, ?_⟩))
  go_ret
  exact ⟨by first | rfl | (simp; done) | (simp [*]; done), by repeat (first | exact Drawn0.refl _ | apply Drawn0.step)⟩
theorem sum_Of.spec (k : Nat) (l : List Int) (h : ∀ x ∈ l, 0 ≤ x ∧ x < 256) (hl : l.length < 140737488355328) (hk : l.length + 10 ≤ k) :
    sum_Of.f k l = some (Go.Proofs.YtckihppdjoianaaDoor.Crc.more 0 (sum_More.nats l) : Int) := by
  unfold sum_Of.f
  have := sum_More.spec k 0 (by decide) l h hl hk
  rw [show ((0 : Nat) : Int) = 0 from rfl] at this
  rw [this]
  rfl

/-! ### flotillakit_markBytes: function 41 -/
def flotillakit_markBytes.f (a0 : Int) (a1 : Int) : Option (Int) := some ((wrap64 ((wrap64 (37 * (wrap64 (a0 + 1)))) + a1)) % 256)
set_option maxHeartbeats 8000000 in
set_option maxRecDepth 100000 in
theorem flotillakit_markBytes.calls (a0 : Int) (a1 : Int) (r : Int) (w : World) (h : flotillakit_markBytes.f a0 a1 = some r) :
    Calls Tryd.prog 41 #[.int .i64 a0, .int .i64 a1] w fun e w' => e = .returned (.int .u8 r) ∧ Drawn0 w w' := by
  have H : (some ((wrap64 ((wrap64 (37 * (wrap64 (a0 + 1)))) + a1)) % 256)) = some r := h
  clear h
  obtain rfl := Option.some.inj H
  go_enter Tryd.func41, Tryd.ntmps41
  go_wp2
  go_ret
  exact ⟨by first | rfl | (simp; done) | (simp [*]; done), by repeat (first | exact Drawn0.refl _ | apply Drawn0.step)⟩
def flotillakit_markBytes.v (a0 a1 : Int) : Int := (wrap64 ((wrap64 (37 * (wrap64 (a0 + 1)))) + a1)) % 256
theorem flotillakit_markBytes.is (a0 a1 : Int) : flotillakit_markBytes.f a0 a1 = some (flotillakit_markBytes.v a0 a1) := rfl
theorem flotillakit_markBytes.one (a : Nat) (h : a + 1 < 9223372036854775808) : wrap64 ((a : Int) + 1) = ((a + 1 : Nat) : Int) := by rw [IntWalk.wrap64_in _ ⟨by omega, by omega⟩]; rfl
theorem flotillakit_markBytes.up (d : Nat) (h : d + 1 ≤ 16) : wrap64 (16 - ((d + 1 : Nat) : Int) + 1) = 16 - (d : Int) := by rw [IntWalk.wrap64_in _ ⟨by omega, by omega⟩]; omega
theorem flotillakit_markBytes.off (n j : Nat) (h : n + j < 9223372036854775808) : wrap64 (((n + j : Nat) : Int) - (n : Int)) = (j : Int) := by rw [IntWalk.wrap64_in _ ⟨by omega, by omega⟩]; omega
attribute [irreducible] flotillakit_markBytes.v

/-! ### flotillakit_FullBytes: function 35 -/
mutual
def flotillakit_FullBytes.l0 : Nat → List Int → List Int → Int → Option (List Int)
  | 0, _, _, _ => none
  | k + 1, x0, x3, x4 => if x4 < (x0.length : Int) then (if 0 ≤ x4 then (if x3.length < 140737488355328 then (flotillakit_FullBytes.l0 k x0 (x3 ++ [rd x0 x4]) (wrap64 (x4 + 1))) else (none)) else (none)) else (flotillakit_FullBytes.l1 k x3 0)
def flotillakit_FullBytes.l1 : Nat → List Int → Int → Option (List Int)
  | 0, _, _ => none
  | k + 1, x3, x5 => if x5 < 16 then ((flotillakit_markBytes.f 90 x5).bind fun t121 => (if x3.length < 140737488355328 then (flotillakit_FullBytes.l1 k (x3 ++ [t121]) (wrap64 (x5 + 1))) else (none))) else (some x3)
end
def flotillakit_FullBytes.f (k : Nat) (l0 : List Int) : Option (List Int) := flotillakit_FullBytes.l0 k l0 ([] : List Int) 0
theorem flotillakit_FullBytes.mono_l : ∀ k, (∀ y0 y1 y2, LeO (flotillakit_FullBytes.l0 k y0 y1 y2) (flotillakit_FullBytes.l0 (k + 1) y0 y1 y2)) ∧ (∀ y0 y1, LeO (flotillakit_FullBytes.l1 k y0 y1) (flotillakit_FullBytes.l1 (k + 1) y0 y1))
  | 0 => ⟨fun _ _ _ r h => by simp [flotillakit_FullBytes.l0] at h, fun _ _ r h => by simp [flotillakit_FullBytes.l1] at h⟩
  | k + 1 => by
    obtain ⟨ih0, ih1⟩ := flotillakit_FullBytes.mono_l k
    refine ⟨?_, ?_⟩
    · intro y0 y1 y2
      unfold flotillakit_FullBytes.l0
      repeat' first
      | (with_reducible exact ih0 _ _ _)
      | (with_reducible exact ih1 _ _)
      | (with_reducible exact LeO.refl _)
      | (with_reducible exact LeO.none _)
      | (with_reducible refine LeO.ite ?_ ?_)
      | (with_reducible refine LeO.bind ?_ (fun _ => ?_))
      | exact ih0 _ _ _
      | exact ih1 _ _
      | exact LeO.none _
      | refine LeO.ite ?_ ?_
      | refine LeO.bind ?_ (fun _ => ?_)
    · intro y0 y1
      unfold flotillakit_FullBytes.l1
      repeat' first
      | (with_reducible exact ih0 _ _ _)
      | (with_reducible exact ih1 _ _)
      | (with_reducible exact LeO.refl _)
      | (with_reducible exact LeO.none _)
      | (with_reducible refine LeO.ite ?_ ?_)
      | (with_reducible refine LeO.bind ?_ (fun _ => ?_))
      | exact ih0 _ _ _
      | exact ih1 _ _
      | exact LeO.none _
      | refine LeO.ite ?_ ?_
      | refine LeO.bind ?_ (fun _ => ?_)
theorem flotillakit_FullBytes.mono : ∀ a0 k, LeO (flotillakit_FullBytes.f k a0) (flotillakit_FullBytes.f (k + 1) a0) := by
  intro a0 k
  obtain ⟨ih0, ih1⟩ := flotillakit_FullBytes.mono_l k
  unfold flotillakit_FullBytes.f
  repeat' first
      | (with_reducible exact ih0 _ _ _)
      | (with_reducible exact ih1 _ _)
      | (with_reducible exact LeO.refl _)
      | (with_reducible exact LeO.none _)
      | (with_reducible refine LeO.ite ?_ ?_)
      | (with_reducible refine LeO.bind ?_ (fun _ => ?_))
      | exact ih0 _ _ _
      | exact ih1 _ _
      | exact LeO.none _
      | refine LeO.ite ?_ ?_
      | refine LeO.bind ?_ (fun _ => ?_)
set_option maxHeartbeats 8000000 in
set_option maxRecDepth 100000 in
theorem flotillakit_FullBytes.calls (k : Nat) (A0 : Option Addr) (c0 : Nat) (l0 : List Int) (r : List Int) (w : World) (hr0 : Kd.C (Kd.int .u8) w A0 l0.length l0) (hc0 : l0.length ≤ c0) (h : flotillakit_FullBytes.f k l0 = some r) :
    Calls Tryd.prog 35 #[.slice A0 l0.length c0] w fun e w' => ∃ v0_ : Value, e = .returned (v0_) ∧ Kd.R (Kd.int .u8) 5 w' w.heap.size (fun _ => True) v0_ r ∧ Below w.heap.size w w' := by
  have HR0 := Aside0.mk hr0
  have HC0 := Aside0.mk hc0
  clear hr0 hc0
  have HB := Aside0.mk (Below.refl w.heap.size w)
  have H : (flotillakit_FullBytes.l0 k l0 ([] : List Int) 0) = some r := h
  clear h
  have H' := Aside0.mk H
  clear H
  go_enter Tryd.func35, Tryd.ntmps35
  go_wp2
  go_loopg [3, 4] k (fun kq v3 v4 w' => ∃ (x3_1 : List Int) (x4_1 : Int), v4 = .int .i64 x4_1 ∧ Aside0 (flotillakit_FullBytes.l0 kq l0 x3_1 x4_1 = some r) ∧ Aside0 (kq ≤ k) ∧ Aside0 (Kd.R (Kd.int .u8) 5 w' w.heap.size (fun _ => True) v3 x3_1) ∧ Aside0 (Below w.heap.size w w'))
  case atStart => exact ⟨(([] : List Int)), (0), (by first | rfl | (simp; done) | (simp [*]; done)), H', ⟨Nat.le_refl _⟩, ⟨by first | exact Kd.R_nil _ _ _ _ _ | exact Kd.N_nil _ _ _ _ _ | exact Kd.V_nil _ _ _ _ _ | exact Kd.Q_nil _ _ _ _ _ | exact Kd.S_nil _ _ _ _ _⟩, ⟨by repeat (first | (with_reducible first | exact HB.out | apply below_alloc | apply pw_below_drewN | apply below_drew1) | exact HB.out)⟩⟩
  case round =>
    clear H'
    obtain ⟨x3_1, x4_1, rfl, HA, HK1, HO_3, HB⟩ := hrel
    cases gk with
    | zero => exact absurd HA.out (by simp [flotillakit_FullBytes.l0])
    | succ k1 =>
      have H := HA.out
      clear HA
      simp only [flotillakit_FullBytes.l0] at H
      by_cases c2 : x4_1 < (l0.length : Int)
      · rw [if_pos c2] at H
        have c2b0 : decide (x4_1 < (l0.length : Int)) = true := decide_eq_true c2
        clear c2
        by_cases c3 : 0 ≤ x4_1
        · rw [if_pos c3] at H
          have c3b0 : decide (0 ≤ x4_1) = true := decide_eq_true c3
          clear c3
          by_cases c4 : x3_1.length < 140737488355328
          · rw [if_pos c4] at H
            have LMc4 := Aside0.mk c4
            clear c4
            obtain ⟨y118, hy118⟩ : ∃ y_ : List Int, y_ = (x3_1 ++ [rd l0 x4_1]) := ⟨_, rfl⟩
            replace H : (flotillakit_FullBytes.l0 k1 l0 y118 (wrap64 (x4_1 + 1))) = some r := by first | (rw [hy118]; with_reducible exact H) | (have H2_ := (Option.bind_some _ _).symm.trans H; rw [hy118]; with_reducible exact H2_) | (have H2_ := (Option.bind_some _ _).symm.trans H; with_reducible exact H2_) | with_reducible exact H | (rw [hy118]; exact H) | exact H
            have Ny118 := Aside0.mk hy118
            clear hy118
            have H' := Aside0.mk H
            clear H
            have p117 : 0 ≤ (x4_1 : Int) := of_decide_eq_true (by first | (with_reducible assumption) | assumption)
            have q117 : x4_1 < (l0.length : Int) := of_decide_eq_true (by first | (with_reducible assumption) | assumption)
            obtain ⟨ad117, e117, hx117_0⟩ := Kd.at_int HR0.out x4_1 p117 q117
            cases e117
            replace hx117_0 := (HB.out.cell (World.block_lt_of_cell? w _ hx117_0)).trans hx117_0
            replace p117 := eq_true p117
            replace q117 := eq_true q117
            go_wp2_with (first | ((with_reducible refine gate_builtin (b := .append) (xs := #[.tmp 12, .tmp 17]) rfl ?_); at_builtin; refine Kd.R_append (Kd.int .u8) (w0 := w) w.heap.size rfl (.tmp 12) (.tmp 17) 31 5 (.int .u8 0) 1 rfl Tryd.underlying31 info5 rfl (by decide) (by omega) u3 x3_1 (rd l0 x4_1) [.int .u8 (rd l0 x4_1)] (fun _ => True) (fun _ => False) rfl rfl ?aP (fun _ hk => hk.elim) ?aF ?aO ?aB ?aS ?aL ?_; (case aP => exact rfl); (case aB => exact (by repeat (first | (with_reducible first | exact HB.out | apply below_alloc | apply pw_below_drewN | apply below_drew1) | exact HB.out))); (case aF => exact (fun _ _ => trivial)); (case aO => exact (by (with_reducible repeat (first | apply Kd.R_alloc | apply Kd.R_drewN | apply Kd.R_drew)); exact HO_3.out)); (case aS => exact (below_size (by repeat (first | (with_reducible first | exact HB.out | apply below_alloc | apply pw_below_drewN | apply below_drew1) | exact HB.out)))); (case aL => have := LMc4.out; omega); intro v119 w5 ho hb hg hat; rw [← Ny118.out] at ho; have n0_ := Aside0.mk (hb); have n1_ := Aside0.mk (ho); clear HB; clear HO_3; have HB := n0_; have HO120 := n1_; clear n0_ n1_; clear ho hb hg hat))
            go_roundg k1
            case measure => have := HK1.out; omega
            case rel => exact ⟨(y118), (wrap64 (x4_1 + 1)), (by first | rfl | (simp; done) | (simp [*]; done)), H', ⟨by have := HK1.out; omega⟩, ⟨by (with_reducible repeat (first | apply Kd.R_alloc | apply Kd.R_drewN | apply Kd.R_drew)); exact HO120.out⟩, ⟨by repeat (first | (with_reducible first | exact HB.out | apply below_alloc | apply pw_below_drewN | apply below_drew1) | exact HB.out)⟩⟩
          · rw [if_neg c4] at H
            exact absurd H (by simp)
        · rw [if_neg c3] at H
          exact absurd H (by simp)
      · rw [if_neg c2] at H
        have c2b0 : decide (x4_1 < (l0.length : Int)) = false := decide_eq_false c2
        clear c2
        have H' := Aside0.mk H
        clear H
        go_wp2
        go_loopg [3, 5] k1 (fun kq v3 v5 w' => ∃ (x3_2 : List Int) (x5_2 : Int), v5 = .int .i64 x5_2 ∧ Aside0 (flotillakit_FullBytes.l1 kq x3_2 x5_2 = some r) ∧ Aside0 (kq ≤ k1) ∧ Aside0 (Kd.R (Kd.int .u8) 5 w' w.heap.size (fun _ => True) v3 x3_2) ∧ Aside0 (Below w.heap.size w w'))
        case atStart => exact ⟨(x3_1), (0), (by first | rfl | (simp; done) | (simp [*]; done)), H', ⟨Nat.le_refl _⟩, ⟨by (with_reducible repeat (first | apply Kd.R_alloc | apply Kd.R_drewN | apply Kd.R_drew)); exact HO_3.out⟩, ⟨by repeat (first | (with_reducible first | exact HB.out | apply below_alloc | apply pw_below_drewN | apply below_drew1) | exact HB.out)⟩⟩
        case round =>
          clear H'
          try clear p1
          try clear q1
          try clear hx1
          try clear c2
          try clear c2b0
          try clear p2
          try clear c3
          try clear c3b0
          try clear c4
          try clear hx117_0
          try clear p117
          try clear q117
          obtain ⟨x3_2, x5_2, rfl, HA, HK2, HO_3, HB⟩ := hrel
          cases gk with
          | zero => exact absurd HA.out (by simp [flotillakit_FullBytes.l1])
          | succ k2 =>
            have H := HA.out
            clear HA
            simp only [flotillakit_FullBytes.l1] at H
            by_cases c6 : x5_2 < 16
            · rw [if_pos c6] at H
              have c6b0 : decide (x5_2 < 16) = true := decide_eq_true c6
              clear c6
              replace H := Option.bind_eq_some_iff.mp H
              obtain ⟨t121, A70, H⟩ := H
              replace H : (if x3_2.length < 140737488355328 then (flotillakit_FullBytes.l1 k2 (x3_2 ++ [t121]) (wrap64 (x5_2 + 1))) else (none)) = some r := H
              have A7 := Aside0.mk A70
              clear A70
              by_cases c8 : x3_2.length < 140737488355328
              · rw [if_pos c8] at H
                have LMc8 := Aside0.mk c8
                clear c8
                obtain ⟨y122, hy122⟩ : ∃ y_ : List Int, y_ = (x3_2 ++ [t121]) := ⟨_, rfl⟩
                replace H : (flotillakit_FullBytes.l1 k2 y122 (wrap64 (x5_2 + 1))) = some r := by first | (rw [hy122]; with_reducible exact H) | (have H2_ := (Option.bind_some _ _).symm.trans H; rw [hy122]; with_reducible exact H2_) | (have H2_ := (Option.bind_some _ _).symm.trans H; with_reducible exact H2_) | with_reducible exact H | (rw [hy122]; exact H) | exact H
                have Ny122 := Aside0.mk hy122
                clear hy122
                have H' := Aside0.mk H
                clear H
                go_wp2_with (first | ((with_reducible refine gate_callee (f := 41) rfl ?_); refine goesL_ (some 25) rfl rfl Tryd.func41 (by kernel_rfl) rfl #[.int .i64 90, .int .i64 x5_2] rfl (by (try simp only [List.map_toArray, List.map_cons, List.map_nil]); first | done | rfl | (simp only [List.length_drop, List.length_take]; rfl)) ?_; (with_reducible refine (flotillakit_markBytes.calls 90 x5_2 t121 _ A7.out).mono ?_); rintro e w' ⟨rfl, ⟨nd, rfl⟩⟩; refine ⟨_, rfl, ?_⟩) | ((with_reducible refine gate_builtin (b := .append) (xs := #[.tmp 23, .tmp 26]) rfl ?_); at_builtin; refine Kd.R_append (Kd.int .u8) (w0 := w) w.heap.size rfl (.tmp 23) (.tmp 26) 31 5 (.int .u8 0) 1 rfl Tryd.underlying31 info5 rfl (by decide) (by omega) u3 x3_2 t121 [.int .u8 t121] (fun _ => True) (fun _ => False) rfl rfl ?aP (fun _ hk => hk.elim) ?aF ?aO ?aB ?aS ?aL ?_; (case aP => exact rfl); (case aB => exact (by repeat (first | (with_reducible first | exact HB.out | apply below_alloc | apply pw_below_drewN | apply below_drew1) | exact HB.out))); (case aF => exact (fun _ _ => trivial)); (case aO => exact (by (with_reducible repeat (first | apply Kd.R_alloc | apply Kd.R_drewN | apply Kd.R_drew)); exact HO_3.out)); (case aS => exact (below_size (by repeat (first | (with_reducible first | exact HB.out | apply below_alloc | apply pw_below_drewN | apply below_drew1) | exact HB.out)))); (case aL => have := LMc8.out; omega); intro v123 w9 ho hb hg hat; rw [← Ny122.out] at ho; have n0_ := Aside0.mk (hb); have n1_ := Aside0.mk (ho); clear HB; clear HO_3; have HB := n0_; have HO124 := n1_; clear n0_ n1_; clear ho hb hg hat))
                go_roundg k2
                case measure => have := HK1.out; have := HK2.out; omega
                case rel => exact ⟨(y122), (wrap64 (x5_2 + 1)), (by first | rfl | (simp; done) | (simp [*]; done)), H', ⟨by have := HK1.out; have := HK2.out; omega⟩, ⟨by (with_reducible repeat (first | apply Kd.R_alloc | apply Kd.R_drewN | apply Kd.R_drew)); exact HO124.out⟩, ⟨by repeat (first | (with_reducible first | exact HB.out | apply below_alloc | apply pw_below_drewN | apply below_drew1) | exact HB.out)⟩⟩
              · rw [if_neg c8] at H
                exact absurd H (by simp)
            · rw [if_neg c6] at H
              have c6b0 : decide (x5_2 < 16) = false := decide_eq_false c6
              clear c6
              obtain rfl := Option.some.inj H
              go_wp2
              go_ret
              exact ⟨_, by first | rfl | (simp [errW_none, errW_some] <;> rfl) | (simp [*, errW_none, errW_some] <;> rfl), by (with_reducible repeat (first | apply Kd.R_alloc | apply Kd.R_drewN | apply Kd.R_drew)); exact HO_3.out, by repeat (first | (with_reducible first | exact HB.out | apply below_alloc | apply pw_below_drewN | apply below_drew1) | exact HB.out)⟩
/-- The marks behind a lent list: the last d of them. -/
def flotillakit_FullBytes.marks : Nat → List Int
  | 0 => []
  | d + 1 => flotillakit_markBytes.v 90 (16 - ((d + 1 : Nat) : Int)) :: flotillakit_FullBytes.marks d
theorem flotillakit_FullBytes.marks_succ (d : Nat) : flotillakit_FullBytes.marks (d + 1) = flotillakit_markBytes.v 90 (16 - ((d + 1 : Nat) : Int)) :: flotillakit_FullBytes.marks d := rfl
theorem flotillakit_FullBytes.marks_len (d : Nat) : (flotillakit_FullBytes.marks d).length = d := by
  induction d with
  | zero => rfl
  | succ d ih => rw [flotillakit_FullBytes.marks_succ, List.length_cons, ih]
theorem flotillakit_FullBytes.marks_length : (flotillakit_FullBytes.marks 16).length = 16 := flotillakit_FullBytes.marks_len 16
theorem flotillakit_FullBytes.marks_at (d : Nat) : ∀ i, i < d → d ≤ 16 → (flotillakit_FullBytes.marks d)[i]? = some (flotillakit_markBytes.v 90 (16 - (d : Int) + (i : Int))) := by
  induction d with
  | zero => intro i h; omega
  | succ d ih =>
    intro i h hd
    rw [flotillakit_FullBytes.marks_succ]
    cases i with
    | zero => rw [List.getElem?_cons_zero, show (16 - ((d + 1 : Nat) : Int) + ((0 : Nat) : Int)) = 16 - ((d + 1 : Nat) : Int) by omega]
    | succ i => rw [List.getElem?_cons_succ, ih i (by omega) (by omega), show (16 - ((d + 1 : Nat) : Int) + ((i + 1 : Nat) : Int)) = 16 - (d : Int) + (i : Int) by omega]
theorem flotillakit_FullBytes.marks_get (i : Nat) (hi : i < 16) : rd (flotillakit_FullBytes.marks 16) (i : Int) = flotillakit_markBytes.v 90 (i : Int) := by
  unfold rd
  rw [Int.toNat_natCast, List.getD_eq_getElem?_getD, flotillakit_FullBytes.marks_at 16 i hi (Nat.le_refl _), Option.getD_some, show (16 - ((16 : Nat) : Int) + (i : Int)) = (i : Int) by omega]
theorem flotillakit_FullBytes.loop1 (m : Nat) : ∀ (d : Nat) (x : List Int), d ≤ 16 → x.length + d < 140737488355328 → flotillakit_FullBytes.l1 (m + 1 + d) x (16 - (d : Int)) = some (x ++ flotillakit_FullBytes.marks d) := by
  intro d
  induction d with
  | zero =>
    intro x _ _
    simp only [flotillakit_FullBytes.l1]
    rw [if_neg (by omega)]
    simp [flotillakit_FullBytes.marks]
  | succ d ih =>
    intro x h1 h2
    show flotillakit_FullBytes.l1 ((m + 1 + d) + 1) x _ = _
    rw [flotillakit_FullBytes.l1, if_pos (by omega), flotillakit_markBytes.is, Option.bind_some, if_pos (by omega), flotillakit_markBytes.up d h1, ih _ (by omega) (by rw [List.length_append, List.length_singleton]; omega), List.append_assoc,
      flotillakit_FullBytes.marks_succ d, List.singleton_append]
theorem flotillakit_FullBytes.loop0 (l : List Int) (hl : l.length + 16 < 140737488355328) (m : Nat) : ∀ (d i : Nat), i + d = l.length → flotillakit_FullBytes.l0 (m + 18 + d) l (l.take i) (i : Int) = some (l ++ flotillakit_FullBytes.marks 16) := by
  intro d
  induction d with
  | zero =>
    intro i hi
    show flotillakit_FullBytes.l0 ((m + 17) + 1) _ _ _ = _
    rw [flotillakit_FullBytes.l0, if_neg (by omega), List.take_of_length_le (by omega)]
    exact flotillakit_FullBytes.loop1 m 16 l (Nat.le_refl _) (by omega)
  | succ d ih =>
    intro i hi
    show flotillakit_FullBytes.l0 ((m + 18 + d) + 1) _ _ _ = _
    have e2 : l.take i ++ [rd l (i : Int)] = l.take (i + 1) := by
      rw [List.take_succ_eq_append_getElem (by omega)]
      simp [rd, List.getElem?_eq_getElem (show i < l.length by omega)]
    rw [flotillakit_FullBytes.l0, if_pos (by omega), if_pos (by omega), if_pos (by rw [List.length_take]; omega), e2, flotillakit_markBytes.one i (by omega)]
    exact ih (i + 1) (by omega)
theorem flotillakit_FullBytes.spec (l : List Int) (hl : l.length + 16 < 140737488355328) (k : Nat) (hk : l.length + 18 ≤ k) : flotillakit_FullBytes.f k l = some (l ++ flotillakit_FullBytes.marks 16) := by
  have := flotillakit_FullBytes.loop0 l hl (k - 18 - l.length) l.length 0 (by omega)
  rw [show k - 18 - l.length + 18 + l.length = k by omega] at this
  exact this

/-! ### flotillakit_LentBytes: function 20 -/
/-- The list that is lent, and its spare room behind it. -/
theorem flotillakit_LentBytes.lent (k : Nat) (A0 : Option Addr) (c0 : Nat) (l0 full : List Int) (w : World) (hr0 : Kd.C (Kd.int .u8) w A0 l0.length l0) (hc0 : l0.length ≤ c0) (hn : full.length = l0.length + 16) (h : flotillakit_FullBytes.f k l0 = some full) :
    Calls Tryd.prog 20 #[.slice A0 l0.length c0] w fun e w' => ∃ (ad : Addr) (c : Nat), e = .returned (.slice (some ad) l0.length c) ∧ full.length ≤ c ∧ Kd.C (Kd.int .u8) w' (some ad) full.length full ∧ w.heap.size ≤ ad.block ∧ Below w.heap.size w w' := by
  have HN := Lib.hid hn
  go_enter Tryd.func20, Tryd.ntmps20
  go_wp2_with fail
  refine (flotillakit_FullBytes.calls k _ _ l0 full _ hr0 hc0 h).mono ?_
  rintro e w' ⟨v, rfl, ho, hb⟩
  obtain ⟨Ao, co, rfl⟩ := Kd.R_slice ho
  have hrd := Kd.R_reads' ho
  have hlen := HN.out
  have hco := hrd.2.1
  obtain ⟨ad, x1, _⟩ := Kd.at_int hrd.2.2 0 (by omega) (by omega)
  subst x1
  have hbk : w.heap.size ≤ ad.block := by
    obtain ⟨inner, hi⟩ := Kd.R_own ho
    exact own_base hi ad.block (by simp [Value.ownBlock])
  have hle : l0.length ≤ co := by omega
  clear hn
  go_wp2_with fail
  go_ret
  exact ⟨ad, co, rfl, hco, hrd.2.2, hbk, hb⟩

/-! ### flotillaref04_More: function 22 -/
mutual
def flotillaref04_More.l0 : Nat → List Int → Int → Int → Option (Int)
  | 0, _, _, _ => none
  | k + 1, x1, x5, x6 => if x6 < (x1.length : Int) then (if 0 ≤ x6 then (flotillaref04_More.l1 k x1 (Go.bits .xor .u32 x5 ((rd x1 x6) % 4294967296)) x6 0) else (none)) else (some (Go.bits .xor .u32 4294967295 x5))
def flotillaref04_More.l1 : Nat → List Int → Int → Int → Int → Option (Int)
  | 0, _, _, _, _ => none
  | k + 1, x1, x5, x6, x7 => if x7 < 8 then ((flotillaref04_bit.f x5).bind fun t126 => (flotillaref04_More.l1 k x1 t126 x6 (wrap64 (x7 + 1)))) else (flotillaref04_More.l0 k x1 x5 (wrap64 (x6 + 1)))
end
def flotillaref04_More.f (k : Nat) (a0 : Int) (l1 : List Int) : Option (Int) := flotillaref04_More.l0 k l1 (Go.bits .xor .u32 4294967295 a0) 0
theorem flotillaref04_More.mono_l : ∀ k, (∀ y0 y1 y2, LeO (flotillaref04_More.l0 k y0 y1 y2) (flotillaref04_More.l0 (k + 1) y0 y1 y2)) ∧ (∀ y0 y1 y2 y3, LeO (flotillaref04_More.l1 k y0 y1 y2 y3) (flotillaref04_More.l1 (k + 1) y0 y1 y2 y3))
  | 0 => ⟨fun _ _ _ r h => by simp [flotillaref04_More.l0] at h, fun _ _ _ _ r h => by simp [flotillaref04_More.l1] at h⟩
  | k + 1 => by
    obtain ⟨ih0, ih1⟩ := flotillaref04_More.mono_l k
    refine ⟨?_, ?_⟩
    · intro y0 y1 y2
      unfold flotillaref04_More.l0
      repeat' first
      | (with_reducible exact ih0 _ _ _)
      | (with_reducible exact ih1 _ _ _ _)
      | (with_reducible exact LeO.refl _)
      | (with_reducible exact LeO.none _)
      | (with_reducible refine LeO.ite ?_ ?_)
      | (with_reducible refine LeO.bind ?_ (fun _ => ?_))
      | exact ih0 _ _ _
      | exact ih1 _ _ _ _
      | exact LeO.none _
      | refine LeO.ite ?_ ?_
      | refine LeO.bind ?_ (fun _ => ?_)
    · intro y0 y1 y2 y3
      unfold flotillaref04_More.l1
      repeat' first
      | (with_reducible exact ih0 _ _ _)
      | (with_reducible exact ih1 _ _ _ _)
      | (with_reducible exact LeO.refl _)
      | (with_reducible exact LeO.none _)
      | (with_reducible refine LeO.ite ?_ ?_)
      | (with_reducible refine LeO.bind ?_ (fun _ => ?_))
      | exact ih0 _ _ _
      | exact ih1 _ _ _ _
      | exact LeO.none _
      | refine LeO.ite ?_ ?_
      | refine LeO.bind ?_ (fun _ => ?_)
theorem flotillaref04_More.mono : ∀ a0 a1 k, LeO (flotillaref04_More.f k a0 a1) (flotillaref04_More.f (k + 1) a0 a1) := by
  intro a0 a1 k
  obtain ⟨ih0, ih1⟩ := flotillaref04_More.mono_l k
  unfold flotillaref04_More.f
  repeat' first
      | (with_reducible exact ih0 _ _ _)
      | (with_reducible exact ih1 _ _ _ _)
      | (with_reducible exact LeO.refl _)
      | (with_reducible exact LeO.none _)
      | (with_reducible refine LeO.ite ?_ ?_)
      | (with_reducible refine LeO.bind ?_ (fun _ => ?_))
      | exact ih0 _ _ _
      | exact ih1 _ _ _ _
      | exact LeO.none _
      | refine LeO.ite ?_ ?_
      | refine LeO.bind ?_ (fun _ => ?_)
set_option maxHeartbeats 8000000 in
set_option maxRecDepth 100000 in
theorem flotillaref04_More.calls (k : Nat) (a0 : Int) (A1 : Option Addr) (c1 : Nat) (l1 : List Int) (r : Int) (w : World) (hr1 : Kd.C (Kd.int .u8) w A1 l1.length l1) (hc1 : l1.length ≤ c1) (h : flotillaref04_More.f k a0 l1 = some r) :
    Calls Tryd.prog 22 #[.int .u32 a0, .slice A1 l1.length c1] w fun e w' => e = .returned (.int .u32 r) ∧ Drawn0 w w' := by
  have HR1 := Aside0.mk hr1
  have HC1 := Aside0.mk hc1
  clear hr1 hc1
  have H : (flotillaref04_More.l0 k l1 (Go.bits .xor .u32 4294967295 a0) 0) = some r := h
  clear h
  have H' := Aside0.mk H
  clear H
  go_enter Tryd.func22, Tryd.ntmps22
  go_wp2
  go_loopg [5, 6] k (fun kq v5 v6 w' => ∃ (x5_1 : Int) (x6_1 : Int), v5 = .int .u32 x5_1 ∧ v6 = .int .i64 x6_1 ∧ Aside0 (flotillaref04_More.l0 kq l1 x5_1 x6_1 = some r) ∧ Aside0 (kq ≤ k) ∧ Drawn0 w w')
  case atStart => exact ⟨(Go.bits .xor .u32 4294967295 a0), (0), (by first | rfl | (simp; done) | (simp [*]; done)), (by first | rfl | (simp; done) | (simp [*]; done)), H', ⟨Nat.le_refl _⟩, by repeat (first | exact Drawn0.refl _ | apply Drawn0.step)⟩
  case round =>
    clear H'
    try clear c1
    try clear c2
    try clear p2
    obtain ⟨x5_1, x6_1, rfl, rfl, HA, HK1, ⟨m1, rfl⟩⟩ := hrel
    cases gk with
    | zero => exact absurd HA.out (by simp [flotillaref04_More.l0])
    | succ k1 =>
      have H := HA.out
      clear HA
      simp only [flotillaref04_More.l0] at H
      by_cases c3 : x6_1 < (l1.length : Int)
      · rw [if_pos c3] at H
        have c3b0 : decide (x6_1 < (l1.length : Int)) = true := decide_eq_true c3
        clear c3
        by_cases c4 : 0 ≤ x6_1
        · rw [if_pos c4] at H
          have c4b0 : decide (0 ≤ x6_1) = true := decide_eq_true c4
          clear c4
          have H' := Aside0.mk H
          clear H
          have p125 : 0 ≤ (x6_1 : Int) := of_decide_eq_true (by first | (with_reducible assumption) | assumption)
          have q125 : x6_1 < (l1.length : Int) := of_decide_eq_true (by first | (with_reducible assumption) | assumption)
          obtain ⟨ad125, e125, hx125_0⟩ := Kd.at_int HR1.out x6_1 p125 q125
          cases e125
          replace p125 := eq_true p125
          replace q125 := eq_true q125
          go_wp2
          go_loopg [5, 7] k1 (fun kq v5 v7 w' => ∃ (x5_2 : Int) (x7_2 : Int), v5 = .int .u32 x5_2 ∧ v7 = .int .i64 x7_2 ∧ Aside0 (flotillaref04_More.l1 kq l1 x5_2 x6_1 x7_2 = some r) ∧ Aside0 (kq ≤ k1) ∧ Drawn0 w w')
          case atStart => exact ⟨(Go.bits .xor .u32 x5_1 ((rd l1 x6_1) % 4294967296)), (0), (by first | rfl | (simp; done) | (simp [*]; done)), (by first | rfl | (simp; done) | (simp [*]; done)), H', ⟨Nat.le_refl _⟩, by repeat (first | exact Drawn0.refl _ | apply Drawn0.step)⟩
          case round =>
            clear H'
            try clear c1
            try clear p1
            try clear q1
            try clear hx1
            try clear c2
            try clear p2
            try clear c3
            try clear c3b0
            try clear c4
            try clear c4b0
            try clear hx125_0
            try clear p125
            try clear p2
            try clear q125
            obtain ⟨x5_2, x7_2, rfl, rfl, HA, HK2, ⟨m2, rfl⟩⟩ := hrel
            cases gk with
            | zero => exact absurd HA.out (by simp [flotillaref04_More.l1])
            | succ k2 =>
              have H := HA.out
              clear HA
              simp only [flotillaref04_More.l1] at H
              by_cases c5 : x7_2 < 8
              · rw [if_pos c5] at H
                have c5b0 : decide (x7_2 < 8) = true := decide_eq_true c5
                clear c5
                replace H := Option.bind_eq_some_iff.mp H
                obtain ⟨t126, A60, H⟩ := H
                replace H : (flotillaref04_More.l1 k2 l1 t126 x6_1 (wrap64 (x7_2 + 1))) = some r := H
                have A6 := Aside0.mk A60
                clear A60
                have H' := Aside0.mk H
                clear H
                go_wp2_with (first | ((with_reducible refine gate_callee (f := 28) rfl ?_); refine goesL_ (some 28) rfl rfl Tryd.func28 (by kernel_rfl) rfl #[.int .u32 x5_2] rfl (by (try simp only [List.map_toArray, List.map_cons, List.map_nil]); first | done | rfl | (simp only [List.length_drop, List.length_take]; rfl)) ?_; (with_reducible refine (flotillaref04_bit.calls x5_2 t126 _ A6.out).mono ?_); rintro e w' ⟨rfl, ⟨nd, rfl⟩⟩; refine ⟨_, rfl, ?_⟩))
                go_roundg k2
                case measure => have := HK1.out; have := HK2.out; omega
                case rel => exact ⟨(t126), (wrap64 (x7_2 + 1)), (by first | rfl | (simp; done) | (simp [*]; done)), (by first | rfl | (simp; done) | (simp [*]; done)), H', ⟨by have := HK1.out; have := HK2.out; omega⟩, by repeat (first | exact Drawn0.refl _ | apply Drawn0.step)⟩
              · rw [if_neg c5] at H
                have c5b0 : decide (x7_2 < 8) = false := decide_eq_false c5
                clear c5
                have H' := Aside0.mk H
                clear H
                go_wp2
                go_roundg k2
                case measure => have := HK1.out; have := HK2.out; omega
                case rel => exact ⟨(x5_2), (wrap64 (x6_1 + 1)), (by first | rfl | (simp; done) | (simp [*]; done)), (by first | rfl | (simp; done) | (simp [*]; done)), H', ⟨by have := HK1.out; have := HK2.out; omega⟩, by repeat (first | exact Drawn0.refl _ | apply Drawn0.step)⟩
        · rw [if_neg c4] at H
          exact absurd H (by simp)
      · rw [if_neg c3] at H
        have c3b0 : decide (x6_1 < (l1.length : Int)) = false := decide_eq_false c3
        clear c3
        obtain rfl := Option.some.inj H
        go_wp2
        go_ret
        exact ⟨by first | rfl | (simp; done) | (simp [*]; done), by repeat (first | exact Drawn0.refl _ | apply Drawn0.step)⟩
/-- The reference's rounds: eight bits of a byte, then the next byte. -/
theorem flotillaref04_More.bits8 (l : List Int) (i : Int) (m : Nat) : ∀ (j r : Nat), r < 2 ^ 32 → j ≤ 8 → flotillaref04_More.l1 (m + 1 + j) l (r : Int) i (8 - (j : Int)) = flotillaref04_More.l0 m l (Go.Proofs.YtckihppdjoianaaDoor.Crc.it j r : Int) (wrap64 (i + 1)) := by
  intro j
  induction j with
  | zero =>
    intro r _ _
    rw [Nat.add_zero, flotillaref04_More.l1, if_neg (by omega)]
    rfl
  | succ j ih =>
    intro r h hj
    show flotillaref04_More.l1 ((m + 1 + j) + 1) l (r : Int) i _ = _
    rw [flotillaref04_More.l1, if_pos (by omega)]
    unfold flotillaref04_bit.f
    rw [Go.Proofs.YtckihppdjoianaaDoor.Crc.bit_go h, Option.bind_some, Go.Proofs.YtckihppdjoianaaDoor.Crc.w_up8 j hj, ih _ (Go.Proofs.YtckihppdjoianaaDoor.Crc.step_lt h) (by omega)]
    rfl
theorem flotillaref04_More.loop (l : List Int) (h : ∀ x ∈ l, 0 ≤ x ∧ x < 256) (hl : l.length < 140737488355328) (m : Nat) : ∀ (d i r : Nat), r < 2 ^ 32 → i + d = l.length →
    flotillaref04_More.l0 (m + 1 + 10 * d) l (r : Int) (i : Int) = some (Go.Proofs.YtckihppdjoianaaDoor.Crc.ones ^^^ Go.Proofs.YtckihppdjoianaaDoor.Crc.crc r ((Go.Proofs.YtckihppdjoianaaDoor.Crc.nats l).drop i) : Nat) := by
  intro d
  induction d with
  | zero =>
    intro i r hr hi
    rw [Nat.mul_zero, Nat.add_zero, flotillaref04_More.l0, if_neg (by omega), List.drop_of_length_le (by simp [Go.Proofs.YtckihppdjoianaaDoor.Crc.nats]; omega), Go.Proofs.YtckihppdjoianaaDoor.Crc.not_go hr]
    rfl
  | succ d ih =>
    intro i r hr hi
    have hlt : i < l.length := by omega
    have hb := h _ (List.getElem_mem hlt)
    have e2 : rd l (i : Int) % 4294967296 = ((l[i].toNat : Nat) : Int) := by
      have : rd l (i : Int) = l[i] := by simp [rd, List.getElem?_eq_getElem hlt]
      rw [this]
      omega
    have hx : r ^^^ l[i].toNat < 2 ^ 32 := Nat.xor_lt_two_pow hr (by omega)
    have hs := flotillaref04_More.bits8 l (i : Int) (m + 1 + 10 * d) 8 (r ^^^ l[i].toNat) hx (Nat.le_refl _)
    show flotillaref04_More.l0 ((m + 1 + 10 * d + 1 + 8) + 1) l (r : Int) (i : Int) = _
    rw [flotillaref04_More.l0, if_pos (by omega), if_pos (by omega), e2, Go.Proofs.YtckihppdjoianaaDoor.Crc.bits_xor hr (by omega)]
    rw [show (8 - ((8 : Nat) : Int)) = 0 by omega] at hs
    rw [hs, Go.Proofs.YtckihppdjoianaaDoor.Crc.w_one i (by omega), ih (i + 1) _ (Go.Proofs.YtckihppdjoianaaDoor.Crc.it_lt 8 hx) (by omega)]
    have e3 : (Go.Proofs.YtckihppdjoianaaDoor.Crc.nats l).drop i = l[i].toNat :: (Go.Proofs.YtckihppdjoianaaDoor.Crc.nats l).drop (i + 1) := by
      rw [List.drop_eq_getElem_cons (by simp [Go.Proofs.YtckihppdjoianaaDoor.Crc.nats]; omega)]
      simp [Go.Proofs.YtckihppdjoianaaDoor.Crc.nats]
    rw [e3]
    rfl
theorem flotillaref04_More.spec (k s : Nat) (hs : s < 2 ^ 32) (l : List Int) (h : ∀ x ∈ l, 0 ≤ x ∧ x < 256) (hl : l.length < 140737488355328) (hk : 1 + 10 * l.length ≤ k) :
    flotillaref04_More.f k (s : Int) l = some (Go.Proofs.YtckihppdjoianaaDoor.Crc.more s (Go.Proofs.YtckihppdjoianaaDoor.Crc.nats l) : Int) := by
  unfold flotillaref04_More.f
  rw [Go.Proofs.YtckihppdjoianaaDoor.Crc.not_go hs]
  have := flotillaref04_More.loop l h hl (k - 1 - 10 * l.length) l.length 0 (Go.Proofs.YtckihppdjoianaaDoor.Crc.ones ^^^ s) (Go.Proofs.YtckihppdjoianaaDoor.Crc.not_lt hs) (by omega)
  rw [show k - 1 - 10 * l.length + 1 + 10 * l.length = k by omega] at this
  exact this

/-! ### flotillaref04_Of: function 21 -/
def flotillaref04_Of.f (k : Nat) (l0 : List Int) : Option (Int) := (flotillaref04_More.f k 0 l0).bind fun t127 => (some t127)
theorem flotillaref04_Of.mono : ∀ a0 k, LeO (flotillaref04_Of.f k a0) (flotillaref04_Of.f (k + 1) a0) := by
  intro a0 k
  unfold flotillaref04_Of.f
  repeat' first
      | (with_reducible exact flotillaref04_More.mono _ _ _)
      | (with_reducible exact LeO.refl _)
      | (with_reducible exact LeO.none _)
      | (with_reducible refine LeO.ite ?_ ?_)
      | (with_reducible refine LeO.bind ?_ (fun _ => ?_))
      | exact flotillaref04_More.mono _ _ _
      | exact LeO.none _
      | refine LeO.ite ?_ ?_
      | refine LeO.bind ?_ (fun _ => ?_)
set_option maxHeartbeats 8000000 in
set_option maxRecDepth 100000 in
theorem flotillaref04_Of.calls (k : Nat) (A0 : Option Addr) (c0 : Nat) (l0 : List Int) (r : Int) (w : World) (hr0 : Kd.C (Kd.int .u8) w A0 l0.length l0) (hc0 : l0.length ≤ c0) (h : flotillaref04_Of.f k l0 = some r) :
    Calls Tryd.prog 21 #[.slice A0 l0.length c0] w fun e w' => e = .returned (.int .u32 r) ∧ Drawn0 w w' := by
  have HR0 := Aside0.mk hr0
  have HC0 := Aside0.mk hc0
  clear hr0 hc0
  have H : ((flotillaref04_More.f k 0 l0).bind fun t127 => (some t127)) = some r := h
  clear h
  replace H := Option.bind_eq_some_iff.mp H
  obtain ⟨t127, A20, H⟩ := H
  replace H : (some t127) = some r := H
  have A2 := Aside0.mk A20
  clear A20
  obtain rfl := Option.some.inj H
  go_enter Tryd.func21, Tryd.ntmps21
  go_wp2_with (first | ((with_reducible refine gate_callee (f := 22) rfl ?_); refine goesL_ (some 4) rfl rfl Tryd.func22 (by kernel_rfl) rfl #[.int .u32 0, .slice A0 l0.length c0] rfl (by (try simp only [List.map_toArray, List.map_cons, List.map_nil]); first | done | rfl | (simp only [List.length_drop, List.length_take]; rfl)) ?_; (with_reducible refine (flotillaref04_More.calls k 0 _ _ l0 t127 _ ?side1 ?side2 A2.out).mono ?_); (case side1 => repeat (first | exact HR0.out | (with_reducible refine Kd.C_alloc ?_ _) | (with_reducible refine Kd.C_drewN ?_ _) | (with_reducible refine Kd.C_drew ?_))); (case side2 => exact HC0.out); rintro e w' ⟨rfl, ⟨nd, rfl⟩⟩; refine ⟨_, rfl, ?_⟩))
  go_ret
  exact ⟨by first | rfl | (simp; done) | (simp [*]; done), by repeat (first | exact Drawn0.refl _ | apply Drawn0.step)⟩
theorem flotillaref04_Of.spec (k : Nat) (l : List Int) (h : ∀ x ∈ l, 0 ≤ x ∧ x < 256) (hl : l.length < 140737488355328) (hk : 1 + 10 * l.length ≤ k) :
    flotillaref04_Of.f k l = some (Go.Proofs.YtckihppdjoianaaDoor.Crc.more 0 (Go.Proofs.YtckihppdjoianaaDoor.Crc.nats l) : Int) := by
  unfold flotillaref04_Of.f
  have := flotillaref04_More.spec k 0 (by decide) l h hl hk
  rw [show ((0 : Nat) : Int) = 0 from rfl] at this
  rw [this]
  rfl

/-! ### flotillakit_KeptFullBytes: function 36 -/
def flotillakit_KeptFullBytes.l0 : Nat → List Int → List Int → Int → Option (Bool)
  | 0, _, _, _ => none
  | k + 1, x0, x1, x5 => if x5 < (x0.length : Int) then ((flotillakit_markBytes.f 90 (wrap64 (x5 - (x1.length : Int)))).bind fun t128 => (if x5 < (x1.length : Int) then (if 0 ≤ x5 then (if (rd x0 x5) = (rd x1 x5) then (flotillakit_KeptFullBytes.l0 k x0 x1 (wrap64 (x5 + 1))) else (some false)) else (none)) else (if 0 ≤ x5 then (if (rd x0 x5) = t128 then (flotillakit_KeptFullBytes.l0 k x0 x1 (wrap64 (x5 + 1))) else (some false)) else (none)))) else (some true)
def flotillakit_KeptFullBytes.f (k : Nat) (l0 : List Int) (l1 : List Int) : Option (Bool) := if (l0.length : Int) = (wrap64 ((l1.length : Int) + 16)) then (flotillakit_KeptFullBytes.l0 k l0 l1 0) else (some false)
theorem flotillakit_KeptFullBytes.mono_l : ∀ k, (∀ y0 y1 y2, LeO (flotillakit_KeptFullBytes.l0 k y0 y1 y2) (flotillakit_KeptFullBytes.l0 (k + 1) y0 y1 y2))
  | 0 => fun _ _ _ r h => by simp [flotillakit_KeptFullBytes.l0] at h
  | k + 1 => by
    have ih0 := flotillakit_KeptFullBytes.mono_l k
    · intro y0 y1 y2
      unfold flotillakit_KeptFullBytes.l0
      repeat' first
      | (with_reducible exact ih0 _ _ _)
      | (with_reducible exact LeO.refl _)
      | (with_reducible exact LeO.none _)
      | (with_reducible refine LeO.ite ?_ ?_)
      | (with_reducible refine LeO.bind ?_ (fun _ => ?_))
      | exact ih0 _ _ _
      | exact LeO.none _
      | refine LeO.ite ?_ ?_
      | refine LeO.bind ?_ (fun _ => ?_)
theorem flotillakit_KeptFullBytes.mono : ∀ a0 a1 k, LeO (flotillakit_KeptFullBytes.f k a0 a1) (flotillakit_KeptFullBytes.f (k + 1) a0 a1) := by
  intro a0 a1 k
  have ih0 := flotillakit_KeptFullBytes.mono_l k
  unfold flotillakit_KeptFullBytes.f
  repeat' first
      | (with_reducible exact ih0 _ _ _)
      | (with_reducible exact LeO.refl _)
      | (with_reducible exact LeO.none _)
      | (with_reducible refine LeO.ite ?_ ?_)
      | (with_reducible refine LeO.bind ?_ (fun _ => ?_))
      | exact ih0 _ _ _
      | exact LeO.none _
      | refine LeO.ite ?_ ?_
      | refine LeO.bind ?_ (fun _ => ?_)
set_option maxHeartbeats 8000000 in
set_option maxRecDepth 100000 in
theorem flotillakit_KeptFullBytes.calls (k : Nat) (A0 : Option Addr) (c0 : Nat) (l0 : List Int) (A1 : Option Addr) (c1 : Nat) (l1 : List Int) (r : Bool) (w : World) (hr0 : Kd.C (Kd.int .u8) w A0 l0.length l0) (hc0 : l0.length ≤ c0) (hr1 : Kd.C (Kd.int .u8) w A1 l1.length l1) (hc1 : l1.length ≤ c1) (h : flotillakit_KeptFullBytes.f k l0 l1 = some r) :
    Calls Tryd.prog 36 #[.slice A0 l0.length c0, .slice A1 l1.length c1] w fun e w' => e = .returned (.bool r) ∧ Drawn0 w w' := by
  have HR0 := Aside0.mk hr0
  have HC0 := Aside0.mk hc0
  clear hr0 hc0
  have HR1 := Aside0.mk hr1
  have HC1 := Aside0.mk hc1
  clear hr1 hc1
  have H : (if (l0.length : Int) = (wrap64 ((l1.length : Int) + 16)) then (flotillakit_KeptFullBytes.l0 k l0 l1 0) else (some false)) = some r := h
  clear h
  by_cases c3 : (l0.length : Int) = (wrap64 ((l1.length : Int) + 16))
  · rw [if_pos c3] at H
    have c3b0 : ((l0.length : Int) == (wrap64 ((l1.length : Int) + 16))) = true := beq_iff_eq.mpr c3
    have c3b1 : ((l0.length : Int) != (wrap64 ((l1.length : Int) + 16))) = false := bne_eq_false_iff_eq.mpr c3
    clear c3
    have H' := Aside0.mk H
    clear H
    go_enter Tryd.func36, Tryd.ntmps36
    go_wp2
    go_loopg [5] k (fun kq v5 w' => ∃ (x5_1 : Int), v5 = .int .i64 x5_1 ∧ Aside0 (flotillakit_KeptFullBytes.l0 kq l0 l1 x5_1 = some r) ∧ Aside0 (kq ≤ k) ∧ Drawn0 w w')
    case atStart => exact ⟨(0), (by first | rfl | (simp; done) | (simp [*]; done)), H', ⟨Nat.le_refl _⟩, by repeat (first | exact Drawn0.refl _ | apply Drawn0.step)⟩
    case round =>
      clear H'
      try clear c1
      try clear p2
      try clear c3
      try clear c3b0
      try clear c3b1
      obtain ⟨x5_1, rfl, HA, HK1, ⟨m1, rfl⟩⟩ := hrel
      cases gk with
      | zero => exact absurd HA.out (by simp [flotillakit_KeptFullBytes.l0])
      | succ k1 =>
        have H := HA.out
        clear HA
        simp only [flotillakit_KeptFullBytes.l0] at H
        by_cases c4 : x5_1 < (l0.length : Int)
        · rw [if_pos c4] at H
          have c4b0 : decide (x5_1 < (l0.length : Int)) = true := decide_eq_true c4
          clear c4
          replace H := Option.bind_eq_some_iff.mp H
          obtain ⟨t128, A50, H⟩ := H
          replace H : (if x5_1 < (l1.length : Int) then (if 0 ≤ x5_1 then (if (rd l0 x5_1) = (rd l1 x5_1) then (flotillakit_KeptFullBytes.l0 k1 l0 l1 (wrap64 (x5_1 + 1))) else (some false)) else (none)) else (if 0 ≤ x5_1 then (if (rd l0 x5_1) = t128 then (flotillakit_KeptFullBytes.l0 k1 l0 l1 (wrap64 (x5_1 + 1))) else (some false)) else (none))) = some r := H
          have A5 := Aside0.mk A50
          clear A50
          by_cases c6 : x5_1 < (l1.length : Int)
          · rw [if_pos c6] at H
            have c6b0 : decide (x5_1 < (l1.length : Int)) = true := decide_eq_true c6
            clear c6
            by_cases c7 : 0 ≤ x5_1
            · rw [if_pos c7] at H
              have c7b0 : decide (0 ≤ x5_1) = true := decide_eq_true c7
              clear c7
              by_cases c8 : (rd l0 x5_1) = (rd l1 x5_1)
              · rw [if_pos c8] at H
                have c8b0 : ((rd l0 x5_1) == (rd l1 x5_1)) = true := beq_iff_eq.mpr c8
                have c8b1 : ((rd l0 x5_1) != (rd l1 x5_1)) = false := bne_eq_false_iff_eq.mpr c8
                clear c8
                have H' := Aside0.mk H
                clear H
                go_wp2_with (first | ((with_reducible refine gate_callee (f := 41) rfl ?_); refine goesL_ (some 23) rfl rfl Tryd.func41 (by kernel_rfl) rfl #[.int .i64 90, .int .i64 (wrap64 (x5_1 - (l1.length : Int)))] rfl (by (try simp only [List.map_toArray, List.map_cons, List.map_nil]); first | done | rfl | (simp only [List.length_drop, List.length_take]; rfl)) ?_; (with_reducible refine (flotillakit_markBytes.calls 90 (wrap64 (x5_1 - (l1.length : Int))) t128 _ A5.out).mono ?_); rintro e w' ⟨rfl, ⟨nd, rfl⟩⟩; refine ⟨_, rfl, ?_⟩; have p129 : 0 ≤ (x5_1 : Int) := of_decide_eq_true (by first | (with_reducible assumption) | assumption); have q129 : x5_1 < (l1.length : Int) := of_decide_eq_true (by first | (with_reducible assumption) | assumption); obtain ⟨ad129, e129, hx129_0⟩ := Kd.at_int HR1.out x5_1 p129 q129; cases e129; replace p129 := eq_true p129; replace q129 := eq_true q129; have p130 : 0 ≤ (x5_1 : Int) := of_decide_eq_true (by first | (with_reducible assumption) | assumption); have q130 : x5_1 < (l0.length : Int) := of_decide_eq_true (by first | (with_reducible assumption) | assumption); obtain ⟨ad130, e130, hx130_0⟩ := Kd.at_int HR0.out x5_1 p130 q130; cases e130; replace p130 := eq_true p130; replace q130 := eq_true q130))
                go_roundg k1
                case measure => have := HK1.out; omega
                case rel => exact ⟨(wrap64 (x5_1 + 1)), (by first | rfl | (simp; done) | (simp [*]; done)), H', ⟨by have := HK1.out; omega⟩, by repeat (first | exact Drawn0.refl _ | apply Drawn0.step)⟩
              · rw [if_neg c8] at H
                have c8b0 : ((rd l0 x5_1) == (rd l1 x5_1)) = false := beq_eq_false_iff_ne.mpr c8
                have c8b1 : ((rd l0 x5_1) != (rd l1 x5_1)) = true := bne_iff_ne.mpr c8
                obtain rfl := Option.some.inj H
                go_wp2_with (first | ((with_reducible refine gate_callee (f := 41) rfl ?_); refine goesL_ (some 23) rfl rfl Tryd.func41 (by kernel_rfl) rfl #[.int .i64 90, .int .i64 (wrap64 (x5_1 - (l1.length : Int)))] rfl (by (try simp only [List.map_toArray, List.map_cons, List.map_nil]); first | done | rfl | (simp only [List.length_drop, List.length_take]; rfl)) ?_; (with_reducible refine (flotillakit_markBytes.calls 90 (wrap64 (x5_1 - (l1.length : Int))) t128 _ A5.out).mono ?_); rintro e w' ⟨rfl, ⟨nd, rfl⟩⟩; refine ⟨_, rfl, ?_⟩; have p129 : 0 ≤ (x5_1 : Int) := of_decide_eq_true (by first | (with_reducible assumption) | assumption); have q129 : x5_1 < (l1.length : Int) := of_decide_eq_true (by first | (with_reducible assumption) | assumption); obtain ⟨ad129, e129, hx129_0⟩ := Kd.at_int HR1.out x5_1 p129 q129; cases e129; replace p129 := eq_true p129; replace q129 := eq_true q129; have p130 : 0 ≤ (x5_1 : Int) := of_decide_eq_true (by first | (with_reducible assumption) | assumption); have q130 : x5_1 < (l0.length : Int) := of_decide_eq_true (by first | (with_reducible assumption) | assumption); obtain ⟨ad130, e130, hx130_0⟩ := Kd.at_int HR0.out x5_1 p130 q130; cases e130; replace p130 := eq_true p130; replace q130 := eq_true q130))
                go_ret
                exact ⟨by first | rfl | (simp; done) | (simp [*]; done), by repeat (first | exact Drawn0.refl _ | apply Drawn0.step)⟩
            · rw [if_neg c7] at H
              exact absurd H (by simp)
          · rw [if_neg c6] at H
            have c6b0 : decide (x5_1 < (l1.length : Int)) = false := decide_eq_false c6
            clear c6
            by_cases c9 : 0 ≤ x5_1
            · rw [if_pos c9] at H
              have c9b0 : decide (0 ≤ x5_1) = true := decide_eq_true c9
              clear c9
              by_cases c10 : (rd l0 x5_1) = t128
              · rw [if_pos c10] at H
                have c10b0 : ((rd l0 x5_1) == t128) = true := beq_iff_eq.mpr c10
                have c10b1 : ((rd l0 x5_1) != t128) = false := bne_eq_false_iff_eq.mpr c10
                clear c10
                have H' := Aside0.mk H
                clear H
                go_wp2_with (first | ((with_reducible refine gate_callee (f := 41) rfl ?_); refine goesL_ (some 23) rfl rfl Tryd.func41 (by kernel_rfl) rfl #[.int .i64 90, .int .i64 (wrap64 (x5_1 - (l1.length : Int)))] rfl (by (try simp only [List.map_toArray, List.map_cons, List.map_nil]); first | done | rfl | (simp only [List.length_drop, List.length_take]; rfl)) ?_; (with_reducible refine (flotillakit_markBytes.calls 90 (wrap64 (x5_1 - (l1.length : Int))) t128 _ A5.out).mono ?_); rintro e w' ⟨rfl, ⟨nd, rfl⟩⟩; refine ⟨_, rfl, ?_⟩; have p131 : 0 ≤ (x5_1 : Int) := of_decide_eq_true (by first | (with_reducible assumption) | assumption); have q131 : x5_1 < (l0.length : Int) := of_decide_eq_true (by first | (with_reducible assumption) | assumption); obtain ⟨ad131, e131, hx131_0⟩ := Kd.at_int HR0.out x5_1 p131 q131; cases e131; replace p131 := eq_true p131; replace q131 := eq_true q131))
                go_roundg k1
                case measure => have := HK1.out; omega
                case rel => exact ⟨(wrap64 (x5_1 + 1)), (by first | rfl | (simp; done) | (simp [*]; done)), H', ⟨by have := HK1.out; omega⟩, by repeat (first | exact Drawn0.refl _ | apply Drawn0.step)⟩
              · rw [if_neg c10] at H
                have c10b0 : ((rd l0 x5_1) == t128) = false := beq_eq_false_iff_ne.mpr c10
                have c10b1 : ((rd l0 x5_1) != t128) = true := bne_iff_ne.mpr c10
                obtain rfl := Option.some.inj H
                go_wp2_with (first | ((with_reducible refine gate_callee (f := 41) rfl ?_); refine goesL_ (some 23) rfl rfl Tryd.func41 (by kernel_rfl) rfl #[.int .i64 90, .int .i64 (wrap64 (x5_1 - (l1.length : Int)))] rfl (by (try simp only [List.map_toArray, List.map_cons, List.map_nil]); first | done | rfl | (simp only [List.length_drop, List.length_take]; rfl)) ?_; (with_reducible refine (flotillakit_markBytes.calls 90 (wrap64 (x5_1 - (l1.length : Int))) t128 _ A5.out).mono ?_); rintro e w' ⟨rfl, ⟨nd, rfl⟩⟩; refine ⟨_, rfl, ?_⟩; have p131 : 0 ≤ (x5_1 : Int) := of_decide_eq_true (by first | (with_reducible assumption) | assumption); have q131 : x5_1 < (l0.length : Int) := of_decide_eq_true (by first | (with_reducible assumption) | assumption); obtain ⟨ad131, e131, hx131_0⟩ := Kd.at_int HR0.out x5_1 p131 q131; cases e131; replace p131 := eq_true p131; replace q131 := eq_true q131))
                go_ret
                exact ⟨by first | rfl | (simp; done) | (simp [*]; done), by repeat (first | exact Drawn0.refl _ | apply Drawn0.step)⟩
            · rw [if_neg c9] at H
              exact absurd H (by simp)
        · rw [if_neg c4] at H
          have c4b0 : decide (x5_1 < (l0.length : Int)) = false := decide_eq_false c4
          clear c4
          obtain rfl := Option.some.inj H
          go_wp2
          go_ret
          exact ⟨by first | rfl | (simp; done) | (simp [*]; done), by repeat (first | exact Drawn0.refl _ | apply Drawn0.step)⟩
  · rw [if_neg c3] at H
    have c3b0 : ((l0.length : Int) == (wrap64 ((l1.length : Int) + 16))) = false := beq_eq_false_iff_ne.mpr c3
    have c3b1 : ((l0.length : Int) != (wrap64 ((l1.length : Int) + 16))) = true := bne_iff_ne.mpr c3
    obtain rfl := Option.some.inj H
    go_enter Tryd.func36, Tryd.ntmps36
    go_wp2
    go_ret
    exact ⟨by first | rfl | (simp; done) | (simp [*]; done), by repeat (first | exact Drawn0.refl _ | apply Drawn0.step)⟩
theorem flotillakit_KeptFullBytes.loop (l : List Int) (hl : l.length + 16 < 140737488355328) (m : Nat) : ∀ (d i : Nat), i + d = l.length + 16 → flotillakit_KeptFullBytes.l0 (m + 1 + d) (l ++ flotillakit_FullBytes.marks 16) l (i : Int) = some true := by
  have hlen : (l ++ flotillakit_FullBytes.marks 16).length = l.length + 16 := by rw [List.length_append, flotillakit_FullBytes.marks_length]
  intro d
  induction d with
  | zero =>
    intro i hi
    rw [Nat.add_zero, flotillakit_KeptFullBytes.l0, if_neg (by omega)]
  | succ d ih =>
    intro i hi
    show flotillakit_KeptFullBytes.l0 ((m + 1 + d) + 1) _ _ _ = _
    rw [flotillakit_KeptFullBytes.l0, if_pos (by omega), flotillakit_markBytes.is, Option.bind_some]
    by_cases hlt : i < l.length
    · have e : rd (l ++ flotillakit_FullBytes.marks 16) (i : Int) = rd l (i : Int) := by
        simp [rd, List.getElem?_append_left hlt]
      rw [if_pos (by omega), if_pos (by omega), e, if_pos rfl, flotillakit_markBytes.one i (by omega)]
      exact ih (i + 1) (by omega)
    · obtain ⟨j, rfl⟩ : ∃ j, i = l.length + j := ⟨i - l.length, by omega⟩
      have e : rd (l ++ flotillakit_FullBytes.marks 16) ((l.length + j : Nat) : Int) = rd (flotillakit_FullBytes.marks 16) (j : Int) := by
        simp only [rd, Int.toNat_natCast]
        simp [List.getElem?_append_right]
      rw [if_neg (by omega), if_pos (by omega), e, flotillakit_markBytes.off _ j (by omega), flotillakit_FullBytes.marks_get j (by omega), if_pos rfl, flotillakit_markBytes.one _ (by omega)]
      exact ih (l.length + j + 1) (by omega)
theorem flotillakit_KeptFullBytes.spec (l : List Int) (hl : l.length + 16 < 140737488355328) (k : Nat) (hk : l.length + 18 ≤ k) : flotillakit_KeptFullBytes.f k (l ++ flotillakit_FullBytes.marks 16) l = some true := by
  have hlen : (l ++ flotillakit_FullBytes.marks 16).length = l.length + 16 := by rw [List.length_append, flotillakit_FullBytes.marks_length]
  have := flotillakit_KeptFullBytes.loop l hl (k - 17 - l.length) (l.length + 16) 0 (by omega)
  rw [show k - 17 - l.length + 1 + (l.length + 16) = k by omega] at this
  unfold flotillakit_KeptFullBytes.f
  rw [IntWalk.wrap64_in _ ⟨by omega, by omega⟩, if_pos (by omega)]
  exact this

end Go.Proofs.YtckihppdjoianaaDoor.Print
