/- The functions below as plain Lean functions, each with the proof that the calls come to it; written by a program over the kit's print. -/
import Derived.Test.YtalkodandfjkmaaDoorPrintx0
namespace Go.Proofs.YtalkodandfjkmaaDoor.Print
open Go.RowKit Go.Proofs.YtalkodandfjkmaaDoorW.PrintWords Go.Proofs.YtalkodandfjkmaaDoorW.PrintLast Go.Proofs.YtalkodandfjkmaaDoorW.PrintMore
attribute [local go_sem] max2_int min2_int max_two min_two max_three min_three max_four min_four   -- for this text's walks alone
set_option linter.unusedVariables false
set_option linter.unusedSimpArgs false

/-! ### flotillaref05_Parse: function 5 -/
mutual
def flotillaref05_Parse.l0 : Nat → ByteArray → Int → Int → Option (Int × Int)
  | 0, _, _, _ => none
  | k + 1, x0, x4, x5 => if x5 < 13 then (if 0 ≤ x5 then (if x5 < (x0.size : Int) then (if (bt x0 x5) ≥ 97 then (flotillaref05_Parse.j1 k x0 x4 x5 (bt x0 x5) 99 (decide ((bt x0 x5) ≤ 122))) else (flotillaref05_Parse.j1 k x0 x4 x5 (bt x0 x5) 99 false)) else (none)) else (none)) else (some (x4, 0))
def flotillaref05_Parse.j1 : Nat → ByteArray → Int → Int → Int → Int → Bool → Option (Int × Int)
  | 0, _, _, _, _, _, _ => none
  | k + 1, x0, x4, x5, x6, x7, x23 => if x23 = true then (flotillaref05_Parse.j2 k x0 x4 x5 x6 ((x6 - 97) % 256)) else (flotillaref05_Parse.j2 k x0 x4 x5 x6 x7)
def flotillaref05_Parse.j2 : Nat → ByteArray → Int → Int → Int → Int → Option (Int × Int)
  | 0, _, _, _, _, _ => none
  | k + 1, x0, x4, x5, x6, x7 => if x6 ≥ 50 then (flotillaref05_Parse.j3 k x0 x4 x5 x6 x7 (decide (x6 ≤ 55))) else (flotillaref05_Parse.j3 k x0 x4 x5 x6 x7 false)
def flotillaref05_Parse.j3 : Nat → ByteArray → Int → Int → Int → Int → Bool → Option (Int × Int)
  | 0, _, _, _, _, _, _ => none
  | k + 1, x0, x4, x5, x6, x7, x32 => if x32 = true then (if (((x6 - 50) % 256) + 26) > 31 then (some (0, 4)) else (if x5 = 0 then (if (((x6 - 50) % 256) + 26) > 15 then (some (0, 4)) else (flotillaref05_Parse.l0 k x0 (Go.bits .or .u64 (IntKind.u64.wrap (x4 * 32)) (((x6 - 50) % 256) + 26)) (wrap64 (x5 + 1)))) else (flotillaref05_Parse.l0 k x0 (Go.bits .or .u64 (IntKind.u64.wrap (x4 * 32)) (((x6 - 50) % 256) + 26)) (wrap64 (x5 + 1))))) else (if x7 > 31 then (some (0, 4)) else (if x5 = 0 then (if x7 > 15 then (some (0, 4)) else (flotillaref05_Parse.l0 k x0 (Go.bits .or .u64 (IntKind.u64.wrap (x4 * 32)) x7) (wrap64 (x5 + 1)))) else (flotillaref05_Parse.l0 k x0 (Go.bits .or .u64 (IntKind.u64.wrap (x4 * 32)) x7) (wrap64 (x5 + 1)))))
end
def flotillaref05_Parse.f (k : Nat) (a0 : ByteArray) : Option (Int × Int) := if (a0.size : Int) = 13 then (flotillaref05_Parse.l0 k a0 0 0) else (some (0, 4))
theorem flotillaref05_Parse.mono_l : ∀ k, (∀ y0 y1 y2, LeO (flotillaref05_Parse.l0 k y0 y1 y2) (flotillaref05_Parse.l0 (k + 1) y0 y1 y2)) ∧ (∀ y0 y1 y2 y3 y4 y5, LeO (flotillaref05_Parse.j1 k y0 y1 y2 y3 y4 y5) (flotillaref05_Parse.j1 (k + 1) y0 y1 y2 y3 y4 y5)) ∧ (∀ y0 y1 y2 y3 y4, LeO (flotillaref05_Parse.j2 k y0 y1 y2 y3 y4) (flotillaref05_Parse.j2 (k + 1) y0 y1 y2 y3 y4)) ∧ (∀ y0 y1 y2 y3 y4 y5, LeO (flotillaref05_Parse.j3 k y0 y1 y2 y3 y4 y5) (flotillaref05_Parse.j3 (k + 1) y0 y1 y2 y3 y4 y5))
  | 0 => ⟨fun _ _ _ r h => by simp [flotillaref05_Parse.l0] at h, fun _ _ _ _ _ _ r h => by simp [flotillaref05_Parse.j1] at h, fun _ _ _ _ _ r h => by simp [flotillaref05_Parse.j2] at h, fun _ _ _ _ _ _ r h => by simp [flotillaref05_Parse.j3] at h⟩
  | k + 1 => by
    obtain ⟨ih0, ih1, ih2, ih3⟩ := flotillaref05_Parse.mono_l k
    refine ⟨?_, ?_, ?_, ?_⟩
    · intro y0 y1 y2
      unfold flotillaref05_Parse.l0
      repeat' first
      | (with_reducible exact ih0 _ _ _)
      | (with_reducible exact ih1 _ _ _ _ _ _)
      | (with_reducible exact ih2 _ _ _ _ _)
      | (with_reducible exact ih3 _ _ _ _ _ _)
      | (with_reducible exact LeO.refl _)
      | (with_reducible exact LeO.none _)
      | (with_reducible refine LeO.ite ?_ ?_)
      | (with_reducible refine LeO.bind ?_ (fun _ => ?_))
      | exact ih0 _ _ _
      | exact ih1 _ _ _ _ _ _
      | exact ih2 _ _ _ _ _
      | exact ih3 _ _ _ _ _ _
      | exact LeO.none _
      | refine LeO.ite ?_ ?_
      | refine LeO.bind ?_ (fun _ => ?_)
    · intro y0 y1 y2 y3 y4 y5
      unfold flotillaref05_Parse.j1
      repeat' first
      | (with_reducible exact ih0 _ _ _)
      | (with_reducible exact ih1 _ _ _ _ _ _)
      | (with_reducible exact ih2 _ _ _ _ _)
      | (with_reducible exact ih3 _ _ _ _ _ _)
      | (with_reducible exact LeO.refl _)
      | (with_reducible exact LeO.none _)
      | (with_reducible refine LeO.ite ?_ ?_)
      | (with_reducible refine LeO.bind ?_ (fun _ => ?_))
      | exact ih0 _ _ _
      | exact ih1 _ _ _ _ _ _
      | exact ih2 _ _ _ _ _
      | exact ih3 _ _ _ _ _ _
      | exact LeO.none _
      | refine LeO.ite ?_ ?_
      | refine LeO.bind ?_ (fun _ => ?_)
    · intro y0 y1 y2 y3 y4
      unfold flotillaref05_Parse.j2
      repeat' first
      | (with_reducible exact ih0 _ _ _)
      | (with_reducible exact ih1 _ _ _ _ _ _)
      | (with_reducible exact ih2 _ _ _ _ _)
      | (with_reducible exact ih3 _ _ _ _ _ _)
      | (with_reducible exact LeO.refl _)
      | (with_reducible exact LeO.none _)
      | (with_reducible refine LeO.ite ?_ ?_)
      | (with_reducible refine LeO.bind ?_ (fun _ => ?_))
      | exact ih0 _ _ _
      | exact ih1 _ _ _ _ _ _
      | exact ih2 _ _ _ _ _
      | exact ih3 _ _ _ _ _ _
      | exact LeO.none _
      | refine LeO.ite ?_ ?_
      | refine LeO.bind ?_ (fun _ => ?_)
    · intro y0 y1 y2 y3 y4 y5
      unfold flotillaref05_Parse.j3
      repeat' first
      | (with_reducible exact ih0 _ _ _)
      | (with_reducible exact ih1 _ _ _ _ _ _)
      | (with_reducible exact ih2 _ _ _ _ _)
      | (with_reducible exact ih3 _ _ _ _ _ _)
      | (with_reducible exact LeO.refl _)
      | (with_reducible exact LeO.none _)
      | (with_reducible refine LeO.ite ?_ ?_)
      | (with_reducible refine LeO.bind ?_ (fun _ => ?_))
      | exact ih0 _ _ _
      | exact ih1 _ _ _ _ _ _
      | exact ih2 _ _ _ _ _
      | exact ih3 _ _ _ _ _ _
      | exact LeO.none _
      | refine LeO.ite ?_ ?_
      | refine LeO.bind ?_ (fun _ => ?_)
theorem flotillaref05_Parse.mono : ∀ a0 k, LeO (flotillaref05_Parse.f k a0) (flotillaref05_Parse.f (k + 1) a0) := by
  intro a0 k
  obtain ⟨ih0, ih1, ih2, ih3⟩ := flotillaref05_Parse.mono_l k
  unfold flotillaref05_Parse.f
  repeat' first
      | (with_reducible exact ih0 _ _ _)
      | (with_reducible exact ih1 _ _ _ _ _ _)
      | (with_reducible exact ih2 _ _ _ _ _)
      | (with_reducible exact ih3 _ _ _ _ _ _)
      | (with_reducible exact LeO.refl _)
      | (with_reducible exact LeO.none _)
      | (with_reducible refine LeO.ite ?_ ?_)
      | (with_reducible refine LeO.bind ?_ (fun _ => ?_))
      | exact ih0 _ _ _
      | exact ih1 _ _ _ _ _ _
      | exact ih2 _ _ _ _ _
      | exact ih3 _ _ _ _ _ _
      | exact LeO.none _
      | refine LeO.ite ?_ ?_
      | refine LeO.bind ?_ (fun _ => ?_)
set_option maxHeartbeats 8000000 in
set_option maxRecDepth 100000 in
theorem flotillaref05_Parse.calls (k : Nat) (a0 : ByteArray) (r1 : Int) (r2 : Int) (w : World) (h : flotillaref05_Parse.f k a0 = some (r1, r2)) :
    Calls Tryd.prog 5 #[.string a0] w fun e w' => e = .returned (.tuple #[.int .u64 r1, .int .i64 r2]) ∧ Drawn0 w w' := by
  have H : (if (a0.size : Int) = 13 then (flotillaref05_Parse.l0 k a0 0 0) else (some (0, 4))) = some (r1, r2) := h
  clear h
  by_cases c2 : (a0.size : Int) = 13
  · rw [if_pos c2] at H
    have c2b0 : ((a0.size : Int) == 13) = true := beq_iff_eq.mpr c2
    have c2b1 : ((a0.size : Int) != 13) = false := bne_eq_false_iff_eq.mpr c2
    clear c2
    have H' := Aside0.mk H
    clear H
    go_enter Tryd.func5, Tryd.ntmps5
    go_wp2
    go_loopg [4, 5] k (fun kq v4 v5 w' => ∃ (x4_1 : Int) (x5_1 : Int), v4 = .int .u64 x4_1 ∧ v5 = .int .i64 x5_1 ∧ Aside0 (flotillaref05_Parse.l0 kq a0 x4_1 x5_1 = some (r1, r2)) ∧ Aside0 (kq ≤ k) ∧ Drawn0 w w')
    case atStart => exact ⟨(0), (0), (by first | rfl | (simp; done) | (simp [*]; done)), (by first | rfl | (simp; done) | (simp [*]; done)), H', ⟨Nat.le_refl _⟩, by repeat (first | exact Drawn0.refl _ | apply Drawn0.step)⟩
    case round =>
      clear H'
      try clear c2
      try clear c2b0
      try clear c2b1
      try clear p2
      obtain ⟨x4_1, x5_1, rfl, rfl, HA, HK1, ⟨m1, rfl⟩⟩ := hrel
      cases gk with
      | zero => exact absurd HA.out (by simp [flotillaref05_Parse.l0])
      | succ k1 =>
        have H := HA.out
        clear HA
        simp only [flotillaref05_Parse.l0] at H
        by_cases c3 : x5_1 < 13
        · rw [if_pos c3] at H
          have c3b0 : decide (x5_1 < 13) = true := decide_eq_true c3
          clear c3
          by_cases c4 : 0 ≤ x5_1
          · rw [if_pos c4] at H
            have c4b0 : decide (0 ≤ x5_1) = true := decide_eq_true c4
            clear c4
            by_cases c5 : x5_1 < (a0.size : Int)
            · rw [if_pos c5] at H
              have c5b0 : decide (x5_1 < (a0.size : Int)) = true := decide_eq_true c5
              clear c5
              have HC7 := Aside0.mk H
              clear H
              have p6 : 0 ≤ (x5_1 : Int) := of_decide_eq_true (by first | (with_reducible assumption) | assumption)
              have q6 : x5_1 < (a0.size : Int) := of_decide_eq_true (by first | (with_reducible assumption) | assumption)
              have hx6 := bt_at a0 x5_1
              replace p6 := eq_true p6
              replace q6 := eq_true q6
              go_upto_region 9 with (fail)
              go_cut [23] (fun v23 wc => ∃ (kq : Nat) (x23_6 : Bool), v23 = .bool x23_6 ∧ Aside0 (flotillaref05_Parse.j1 kq a0 x4_1 x5_1 (bt a0 x5_1) 99 x23_6 = some (r1, r2)) ∧ Aside0 (kq ≤ k1) ∧ Drawn0 w wc)
              case first =>
                have H := HC7.out
                clear HC7
                by_cases c8 : (bt a0 x5_1) ≥ 97
                · rw [if_pos c8] at H
                  have c8b0 : decide (97 ≤ (bt a0 x5_1)) = true := decide_eq_true c8
                  clear c8
                  (first | rw [c8b0] | (simp only [i64_w, i32_w]; rw [c8b0]) | skip)
                  have H' := Aside0.mk H
                  clear H
                  go_wp2
                  go_meet
                  case rel => exact ⟨_, (decide ((bt a0 x5_1) ≤ 122)), (by first | rfl | (simp; done) | (simp [*]; done)), H', ⟨by have := HK1.out; first | omega | exact Nat.le_refl _⟩, by repeat (first | exact Drawn0.refl _ | apply Drawn0.step)⟩
                · rw [if_neg c8] at H
                  have c8b0 : decide (97 ≤ (bt a0 x5_1)) = false := decide_eq_false c8
                  clear c8
                  (first | rw [c8b0] | (simp only [i64_w, i32_w]; rw [c8b0]) | skip)
                  have H' := Aside0.mk H
                  clear H
                  go_wp2
                  go_meet
                  case rel => exact ⟨_, (false), (by first | rfl | (simp; done) | (simp [*]; done)), H', ⟨by have := HK1.out; first | omega | exact Nat.le_refl _⟩, by repeat (first | exact Drawn0.refl _ | apply Drawn0.step)⟩
              case rest =>
                clear HC7
                try clear c2
                try clear c2b0
                try clear c2b1
                try clear p2
                try clear c3
                try clear c3b0
                try clear c4
                try clear c4b0
                try clear c5
                try clear c5b0
                try clear p6
                try clear q6
                try clear hx6
                try clear c8
                try clear c8b0
                try clear p2
                try clear p6
                try clear q6
                obtain ⟨kq, x23_6, rfl, HA, HJ6, ⟨mc6, rfl⟩⟩ := hcut
                cases kq with
                | zero => exact absurd HA.out (by simp [flotillaref05_Parse.j1])
                | succ kj6 =>
                  have H := HA.out
                  clear HA
                  simp only [flotillaref05_Parse.j1] at H
                  have HC9 := Aside0.mk H
                  clear H
                  go_upto_if 23 with (fail)
                  go_cut [7] (fun v7 wc => ∃ (kq : Nat) (x7_8 : Int), v7 = .int .u64 x7_8 ∧ Aside0 (flotillaref05_Parse.j2 kq a0 x4_1 x5_1 (bt a0 x5_1) x7_8 = some (r1, r2)) ∧ Aside0 (kq ≤ kj6) ∧ Drawn0 w wc)
                  case first =>
                    have H := HC9.out
                    clear HC9
                    by_cases c10 : x23_6 = true
                    · subst c10
                      have H1 : (flotillaref05_Parse.j2 kj6 a0 x4_1 x5_1 (bt a0 x5_1) (((bt a0 x5_1) - 97) % 256)) = some (r1, r2) := by rw [if_pos rfl] at H; exact H
                      clear H
                      have H := H1
                      clear H1
                      have H' := Aside0.mk H
                      clear H
                      go_wp2
                      go_meet
                      case rel => exact ⟨_, (((bt a0 x5_1) - 97) % 256), (by first | rfl | (simp; done) | (simp [*]; done)), H', ⟨by have := HK1.out; have := HJ6.out; first | omega | exact Nat.le_refl _⟩, by repeat (first | exact Drawn0.refl _ | apply Drawn0.step)⟩
                    · replace c10 := Bool.eq_false_iff.mpr c10
                      subst c10
                      have H1 : (flotillaref05_Parse.j2 kj6 a0 x4_1 x5_1 (bt a0 x5_1) 99) = some (r1, r2) := by rw [if_neg (show ¬ (false = true) by decide)] at H; exact H
                      clear H
                      have H := H1
                      clear H1
                      have H' := Aside0.mk H
                      clear H
                      go_wp2
                      go_meet
                      case rel => exact ⟨_, (99), (by first | rfl | (simp; done) | (simp [*]; done)), H', ⟨by have := HK1.out; have := HJ6.out; first | omega | exact Nat.le_refl _⟩, by repeat (first | exact Drawn0.refl _ | apply Drawn0.step)⟩
                  case rest =>
                    clear HC9
                    try clear c1
                    try clear c2
                    try clear c2b0
                    try clear c2b1
                    try clear p2
                    try clear c3
                    try clear c3b0
                    try clear c4
                    try clear c4b0
                    try clear c5
                    try clear c5b0
                    try clear c6
                    try clear p6
                    try clear q6
                    try clear hx6
                    try clear c8
                    try clear c8b0
                    try clear c10
                    try clear p2
                    try clear p6
                    try clear q6
                    obtain ⟨kq, x7_8, rfl, HA, HJ8, ⟨mc8, rfl⟩⟩ := hcut
                    cases kq with
                    | zero => exact absurd HA.out (by simp [flotillaref05_Parse.j2])
                    | succ kj8 =>
                      have H := HA.out
                      clear HA
                      simp only [flotillaref05_Parse.j2] at H
                      have HC11 := Aside0.mk H
                      clear H
                      go_upto_region 11 with (fail)
                      go_cut [32] (fun v32 wc => ∃ (kq : Nat) (x32_10 : Bool), v32 = .bool x32_10 ∧ Aside0 (flotillaref05_Parse.j3 kq a0 x4_1 x5_1 (bt a0 x5_1) x7_8 x32_10 = some (r1, r2)) ∧ Aside0 (kq ≤ kj8) ∧ Drawn0 w wc)
                      case first =>
                        have H := HC11.out
                        clear HC11
                        by_cases c12 : (bt a0 x5_1) ≥ 50
                        · rw [if_pos c12] at H
                          have c12b0 : decide (50 ≤ (bt a0 x5_1)) = true := decide_eq_true c12
                          clear c12
                          (first | rw [c12b0] | (simp only [i64_w, i32_w]; rw [c12b0]) | skip)
                          have H' := Aside0.mk H
                          clear H
                          go_wp2
                          go_meet
                          case rel => exact ⟨_, (decide ((bt a0 x5_1) ≤ 55)), (by first | rfl | (simp; done) | (simp [*]; done)), H', ⟨by have := HK1.out; have := HJ6.out; have := HJ8.out; first | omega | exact Nat.le_refl _⟩, by repeat (first | exact Drawn0.refl _ | apply Drawn0.step)⟩
                        · rw [if_neg c12] at H
                          have c12b0 : decide (50 ≤ (bt a0 x5_1)) = false := decide_eq_false c12
                          clear c12
                          (first | rw [c12b0] | (simp only [i64_w, i32_w]; rw [c12b0]) | skip)
                          have H' := Aside0.mk H
                          clear H
                          go_wp2
                          go_meet
                          case rel => exact ⟨_, (false), (by first | rfl | (simp; done) | (simp [*]; done)), H', ⟨by have := HK1.out; have := HJ6.out; have := HJ8.out; first | omega | exact Nat.le_refl _⟩, by repeat (first | exact Drawn0.refl _ | apply Drawn0.step)⟩
                      case rest =>
                        clear HC11
                        try clear c1
                        try clear c2
                        try clear c2b0
                        try clear c2b1
                        try clear p2
                        try clear c3
                        try clear c3b0
                        try clear c4
                        try clear c4b0
                        try clear c5
                        try clear c5b0
                        try clear c6
                        try clear p6
                        try clear q6
                        try clear hx6
                        try clear c8
                        try clear c8b0
                        try clear c10
                        try clear c12
                        try clear c12b0
                        try clear p2
                        try clear p6
                        try clear q6
                        obtain ⟨kq, x32_10, rfl, HA, HJ10, ⟨mc10, rfl⟩⟩ := hcut
                        cases kq with
                        | zero => exact absurd HA.out (by simp [flotillaref05_Parse.j3])
                        | succ kj10 =>
                          have H := HA.out
                          clear HA
                          simp only [flotillaref05_Parse.j3] at H
                          by_cases c13 : x32_10 = true
                          · subst c13
                            have H1 : (if ((((bt a0 x5_1) - 50) % 256) + 26) > 31 then (some (0, 4)) else (if x5_1 = 0 then (if ((((bt a0 x5_1) - 50) % 256) + 26) > 15 then (some (0, 4)) else (flotillaref05_Parse.l0 kj10 a0 (Go.bits .or .u64 (IntKind.u64.wrap (x4_1 * 32)) ((((bt a0 x5_1) - 50) % 256) + 26)) (wrap64 (x5_1 + 1)))) else (flotillaref05_Parse.l0 kj10 a0 (Go.bits .or .u64 (IntKind.u64.wrap (x4_1 * 32)) ((((bt a0 x5_1) - 50) % 256) + 26)) (wrap64 (x5_1 + 1))))) = some (r1, r2) := by rw [if_pos rfl] at H; exact H
                            clear H
                            have H := H1
                            clear H1
                            by_cases c14 : ((((bt a0 x5_1) - 50) % 256) + 26) > 31
                            · rw [if_pos c14] at H
                              have c14b0 : decide (31 < ((((bt a0 x5_1) - 50) % 256) + 26)) = true := decide_eq_true c14
                              clear c14
                              simp only [Option.some.injEq, Prod.mk.injEq] at H
                              obtain ⟨rfl, rfl⟩ := H
                              go_wp2
                              go_ret2
                              exact ⟨by first | rfl | (simp; done) | (simp [*]; done), by repeat (first | exact Drawn0.refl _ | apply Drawn0.step)⟩
                            · rw [if_neg c14] at H
                              have c14b0 : decide (31 < ((((bt a0 x5_1) - 50) % 256) + 26)) = false := decide_eq_false c14
                              clear c14
                              by_cases c15 : x5_1 = 0
                              · rw [if_pos c15] at H
                                have c15b0 : (x5_1 == 0) = true := beq_iff_eq.mpr c15
                                have c15b1 : (x5_1 != 0) = false := bne_eq_false_iff_eq.mpr c15
                                clear c15
                                by_cases c16 : ((((bt a0 x5_1) - 50) % 256) + 26) > 15
                                · rw [if_pos c16] at H
                                  have c16b0 : decide (15 < ((((bt a0 x5_1) - 50) % 256) + 26)) = true := decide_eq_true c16
                                  clear c16
                                  simp only [Option.some.injEq, Prod.mk.injEq] at H
                                  obtain ⟨rfl, rfl⟩ := H
                                  go_wp2
                                  go_ret2
                                  exact ⟨by first | rfl | (simp; done) | (simp [*]; done), by repeat (first | exact Drawn0.refl _ | apply Drawn0.step)⟩
                                · rw [if_neg c16] at H
                                  have c16b0 : decide (15 < ((((bt a0 x5_1) - 50) % 256) + 26)) = false := decide_eq_false c16
                                  clear c16
                                  have H' := Aside0.mk H
                                  clear H
                                  go_wp2
                                  go_roundg kj10
                                  case measure => have := HK1.out; have := HJ6.out; have := HJ8.out; have := HJ10.out; omega
                                  case rel => exact ⟨(Go.bits .or .u64 (IntKind.u64.wrap (x4_1 * 32)) ((((bt a0 x5_1) - 50) % 256) + 26)), (wrap64 (x5_1 + 1)), (by first | rfl | (simp; done) | (simp [*]; done)), (by first | rfl | (simp; done) | (simp [*]; done)), H', ⟨by have := HK1.out; have := HJ6.out; have := HJ8.out; have := HJ10.out; omega⟩, by repeat (first | exact Drawn0.refl _ | apply Drawn0.step)⟩
                              · rw [if_neg c15] at H
                                have c15b0 : (x5_1 == 0) = false := beq_eq_false_iff_ne.mpr c15
                                have c15b1 : (x5_1 != 0) = true := bne_iff_ne.mpr c15
                                have H' := Aside0.mk H
                                clear H
                                go_wp2
                                go_roundg kj10
                                case measure => have := HK1.out; have := HJ6.out; have := HJ8.out; have := HJ10.out; omega
                                case rel => exact ⟨(Go.bits .or .u64 (IntKind.u64.wrap (x4_1 * 32)) ((((bt a0 x5_1) - 50) % 256) + 26)), (wrap64 (x5_1 + 1)), (by first | rfl | (simp; done) | (simp [*]; done)), (by first | rfl | (simp; done) | (simp [*]; done)), H', ⟨by have := HK1.out; have := HJ6.out; have := HJ8.out; have := HJ10.out; omega⟩, by repeat (first | exact Drawn0.refl _ | apply Drawn0.step)⟩
                          · replace c13 := Bool.eq_false_iff.mpr c13
                            subst c13
                            have H1 : (if x7_8 > 31 then (some (0, 4)) else (if x5_1 = 0 then (if x7_8 > 15 then (some (0, 4)) else (flotillaref05_Parse.l0 kj10 a0 (Go.bits .or .u64 (IntKind.u64.wrap (x4_1 * 32)) x7_8) (wrap64 (x5_1 + 1)))) else (flotillaref05_Parse.l0 kj10 a0 (Go.bits .or .u64 (IntKind.u64.wrap (x4_1 * 32)) x7_8) (wrap64 (x5_1 + 1))))) = some (r1, r2) := by rw [if_neg (show ¬ (false = true) by decide)] at H; exact H
                            clear H
                            have H := H1
                            clear H1
                            by_cases c17 : x7_8 > 31
                            · rw [if_pos c17] at H
                              have c17b0 : decide (31 < x7_8) = true := decide_eq_true c17
                              clear c17
                              simp only [Option.some.injEq, Prod.mk.injEq] at H
                              obtain ⟨rfl, rfl⟩ := H
                              go_wp2
                              go_ret2
                              exact ⟨by first | rfl | (simp; done) | (simp [*]; done), by repeat (first | exact Drawn0.refl _ | apply Drawn0.step)⟩
                            · rw [if_neg c17] at H
                              have c17b0 : decide (31 < x7_8) = false := decide_eq_false c17
                              clear c17
                              by_cases c18 : x5_1 = 0
                              · rw [if_pos c18] at H
                                have c18b0 : (x5_1 == 0) = true := beq_iff_eq.mpr c18
                                have c18b1 : (x5_1 != 0) = false := bne_eq_false_iff_eq.mpr c18
                                clear c18
                                by_cases c19 : x7_8 > 15
                                · rw [if_pos c19] at H
                                  have c19b0 : decide (15 < x7_8) = true := decide_eq_true c19
                                  clear c19
                                  simp only [Option.some.injEq, Prod.mk.injEq] at H
                                  obtain ⟨rfl, rfl⟩ := H
                                  go_wp2
                                  go_ret2
                                  exact ⟨by first | rfl | (simp; done) | (simp [*]; done), by repeat (first | exact Drawn0.refl _ | apply Drawn0.step)⟩
                                · rw [if_neg c19] at H
                                  have c19b0 : decide (15 < x7_8) = false := decide_eq_false c19
                                  clear c19
                                  have H' := Aside0.mk H
                                  clear H
                                  go_wp2
                                  go_roundg kj10
                                  case measure => have := HK1.out; have := HJ6.out; have := HJ8.out; have := HJ10.out; omega
                                  case rel => exact ⟨(Go.bits .or .u64 (IntKind.u64.wrap (x4_1 * 32)) x7_8), (wrap64 (x5_1 + 1)), (by first | rfl | (simp; done) | (simp [*]; done)), (by first | rfl | (simp; done) | (simp [*]; done)), H', ⟨by have := HK1.out; have := HJ6.out; have := HJ8.out; have := HJ10.out; omega⟩, by repeat (first | exact Drawn0.refl _ | apply Drawn0.step)⟩
                              · rw [if_neg c18] at H
                                have c18b0 : (x5_1 == 0) = false := beq_eq_false_iff_ne.mpr c18
                                have c18b1 : (x5_1 != 0) = true := bne_iff_ne.mpr c18
                                have H' := Aside0.mk H
                                clear H
                                go_wp2
                                go_roundg kj10
                                case measure => have := HK1.out; have := HJ6.out; have := HJ8.out; have := HJ10.out; omega
                                case rel => exact ⟨(Go.bits .or .u64 (IntKind.u64.wrap (x4_1 * 32)) x7_8), (wrap64 (x5_1 + 1)), (by first | rfl | (simp; done) | (simp [*]; done)), (by first | rfl | (simp; done) | (simp [*]; done)), H', ⟨by have := HK1.out; have := HJ6.out; have := HJ8.out; have := HJ10.out; omega⟩, by repeat (first | exact Drawn0.refl _ | apply Drawn0.step)⟩
            · rw [if_neg c5] at H
              exact absurd H (by simp)
          · rw [if_neg c4] at H
            exact absurd H (by simp)
        · rw [if_neg c3] at H
          have c3b0 : decide (x5_1 < 13) = false := decide_eq_false c3
          clear c3
          simp only [Option.some.injEq, Prod.mk.injEq] at H
          obtain ⟨rfl, rfl⟩ := H
          go_wp2
          go_ret2
          exact ⟨by first | rfl | (simp; done) | (simp [*]; done), by repeat (first | exact Drawn0.refl _ | apply Drawn0.step)⟩
  · rw [if_neg c2] at H
    have c2b0 : ((a0.size : Int) == 13) = false := beq_eq_false_iff_ne.mpr c2
    have c2b1 : ((a0.size : Int) != 13) = true := bne_iff_ne.mpr c2
    simp only [Option.some.injEq, Prod.mk.injEq] at H
    obtain ⟨rfl, rfl⟩ := H
    go_enter Tryd.func5, Tryd.ntmps5
    go_wp2
    go_ret2
    exact ⟨by first | rfl | (simp; done) | (simp [*]; done), by repeat (first | exact Drawn0.refl _ | apply Drawn0.step)⟩
/-- A letter's number as the reference has it: 99 for none. -/
theorem flotillaref05_Parse.val_all : ∀ n : Fin 256, (if 97 ≤ (n.val : Int) ∧ (n.val : Int) ≤ 122 then (n.val : Int) - 97 else if 50 ≤ (n.val : Int) ∧ (n.val : Int) ≤ 55 then (n.val : Int) - 50 + 26 else 99) = (if Go.Proofs.YtalkodandfjkmaaDoor.Dig.val (UInt8.ofNat n) < 0 then 99 else Go.Proofs.YtalkodandfjkmaaDoor.Dig.val (UInt8.ofNat n)) := by decide +kernel
def flotillaref05_Parse.v (c : UInt8) : Int := if Go.Proofs.YtalkodandfjkmaaDoor.Dig.val c < 0 then 99 else Go.Proofs.YtalkodandfjkmaaDoor.Dig.val c
theorem flotillaref05_Parse.v_is (c : UInt8) : flotillaref05_Parse.v c = if 97 ≤ (c.toNat : Int) ∧ (c.toNat : Int) ≤ 122 then (c.toNat : Int) - 97 else if 50 ≤ (c.toNat : Int) ∧ (c.toNat : Int) ≤ 55 then (c.toNat : Int) - 50 + 26 else 99 := by
  have h := flotillaref05_Parse.val_all ⟨c.toNat, c.toNat_lt⟩
  simp only [UInt8.ofNat_toNat] at h
  exact h.symm
/-- What the rounds come to. -/
def flotillaref05_Parse.told (r : Option Int) : Int × Int := match r with | some y => (y, 0) | none => (0, 4)
/-- The end of a round, at a value. -/
theorem flotillaref05_Parse.last (R : Int × Int) (s : ByteArray) (x i v : Int) (h1 : v > 31 → R = (0, 4)) (h2 : ¬ v > 31 → i = 0 → v > 15 → R = (0, 4))
    (h3 : ¬ v > 31 → (i = 0 → ¬ v > 15) → Ev (fun k => flotillaref05_Parse.l0 k s (Go.bits .or .u64 (IntKind.u64.wrap (x * 32)) v) (wrap64 (i + 1))) R) :
    Ev (fun k => if v > 31 then (some ((0 : Int), (4 : Int))) else (if i = 0 then (if v > 15 then (some ((0 : Int), (4 : Int))) else (flotillaref05_Parse.l0 k s (Go.bits .or .u64 (IntKind.u64.wrap (x * 32)) v) (wrap64 (i + 1)))) else (flotillaref05_Parse.l0 k s (Go.bits .or .u64 (IntKind.u64.wrap (x * 32)) v) (wrap64 (i + 1))))) R := by
  by_cases c1 : v > 31
  · exact Ev.pos c1 (Ev.cast (h1 c1).symm (Ev.now _))
  · refine Ev.neg c1 ?_
    by_cases c2 : i = 0
    · refine Ev.pos c2 ?_
      by_cases c3 : v > 15
      · exact Ev.pos c3 (Ev.cast (h2 c1 c2 c3).symm (Ev.now _))
      · exact Ev.neg c3 (h3 c1 (fun _ => c3))
    · exact Ev.neg c2 (h3 c1 (fun h => absurd h c2))
theorem flotillaref05_Parse.mid (R : Int × Int) (s : ByteArray) (x i : Int) (c : UInt8) (x7 : Int) (hx : ¬ (50 ≤ (c.toNat : Int) ∧ (c.toNat : Int) ≤ 55) → x7 = flotillaref05_Parse.v c) (hn : ¬ (97 ≤ (c.toNat : Int) ∧ (c.toNat : Int) ≤ 122) ∨ ¬ (50 ≤ (c.toNat : Int) ∧ (c.toNat : Int) ≤ 55))
    (h : Ev (fun k => if flotillaref05_Parse.v c > 31 then (some ((0 : Int), (4 : Int))) else (if i = 0 then (if flotillaref05_Parse.v c > 15 then (some ((0 : Int), (4 : Int))) else (flotillaref05_Parse.l0 k s (Go.bits .or .u64 (IntKind.u64.wrap (x * 32)) (flotillaref05_Parse.v c)) (wrap64 (i + 1)))) else (flotillaref05_Parse.l0 k s (Go.bits .or .u64 (IntKind.u64.wrap (x * 32)) (flotillaref05_Parse.v c)) (wrap64 (i + 1))))) R) :
    Ev (fun k => flotillaref05_Parse.j2 k s x i (c.toNat : Int) x7) R := by
  have hv := flotillaref05_Parse.v_is c
  refine Ev.step (fun _ => by simp only [flotillaref05_Parse.j2]; rfl) ?_
  by_cases c1 : (c.toNat : Int) ≥ 50
  · refine Ev.pos c1 ?_
    refine Ev.step (fun _ => by simp only [flotillaref05_Parse.j3]; rfl) ?_
    by_cases c2 : (c.toNat : Int) ≤ 55
    · refine Ev.pos (decide_eq_true c2) ?_
      have e : (((c.toNat : Int) - 50) % 256) + 26 = flotillaref05_Parse.v c := by
        rw [hv, if_neg (by omega), if_pos (by omega)]
        omega
      rw [e]
      exact h
    · refine Ev.neg (by simp; omega) ?_
      rw [hx (by omega)]
      exact h
  · refine Ev.neg c1 ?_
    refine Ev.step (fun _ => by simp only [flotillaref05_Parse.j3]; rfl) ?_
    refine Ev.neg (by decide) ?_
    rw [hx (by omega)]
    exact h
theorem flotillaref05_Parse.loop (s : ByteArray) (hs : s.size = 13) : ∀ (d i : Nat) (x : Int), i + d = 13 → 0 ≤ x → x < Go.Proofs.YtalkodandfjkmaaDoor.Dig.cap i →
    Ev (fun k => flotillaref05_Parse.l0 k s x (i : Int)) (flotillaref05_Parse.told (Go.Proofs.YtalkodandfjkmaaDoor.Dig.pars (s.data.toList.drop i) (i == 0) x)) := by
  have hsz : s.data.toList.length = 13 := by rw [Array.length_toList]; exact hs
  intro d
  induction d with
  | zero =>
    intro i x hi h0 h1
    refine Ev.step (fun _ => by simp only [flotillaref05_Parse.l0]; rfl) ?_
    rw [List.drop_eq_nil_of_le (by omega)]
    exact Ev.neg (by omega) (Ev.now _)
  | succ d ih =>
    intro i x hi h0 h1
    have hil : i < s.data.toList.length := by omega
    have hb : bt s (i : Int) = ((s.data.toList[i]'hil).toNat : Int) := by
      unfold bt
      rw [dif_pos (show (i : Int).toNat < s.size by omega)]
      rfl
    refine Ev.step (fun _ => by simp only [flotillaref05_Parse.l0]; rfl) ?_
    refine Ev.pos (by omega) (Ev.pos (by omega) (Ev.pos (by omega) ?_))
    rw [hb, List.drop_eq_getElem_cons hil]
    generalize s.data.toList[i]'hil = c
    have hv := flotillaref05_Parse.v_is c
    have hlt := Go.Proofs.YtalkodandfjkmaaDoor.Dig.val_lt c
    have hcap : i ≠ 0 → ∀ v : Int, v < 32 → x * 32 + v < Go.Proofs.YtalkodandfjkmaaDoor.Dig.cap (i + 1) := by
      intro hi0 v hv
      rw [Go.Proofs.YtalkodandfjkmaaDoor.Dig.cap_succ i hi0]; omega
    have hmax := Go.Proofs.YtalkodandfjkmaaDoor.Dig.cap_max i (by omega)
    have hend : Ev (fun k => if flotillaref05_Parse.v c > 31 then (some ((0 : Int), (4 : Int))) else (if (i : Int) = 0 then (if flotillaref05_Parse.v c > 15 then (some ((0 : Int), (4 : Int))) else (flotillaref05_Parse.l0 k s (Go.bits .or .u64 (IntKind.u64.wrap (x * 32)) (flotillaref05_Parse.v c)) (wrap64 ((i : Int) + 1)))) else (flotillaref05_Parse.l0 k s (Go.bits .or .u64 (IntKind.u64.wrap (x * 32)) (flotillaref05_Parse.v c)) (wrap64 ((i : Int) + 1)))))
        (flotillaref05_Parse.told (Go.Proofs.YtalkodandfjkmaaDoor.Dig.pars (c :: s.data.toList.drop (i + 1)) (i == 0) x)) := by
      have e : flotillaref05_Parse.v c = if Go.Proofs.YtalkodandfjkmaaDoor.Dig.val c < 0 then 99 else Go.Proofs.YtalkodandfjkmaaDoor.Dig.val c := rfl
      refine flotillaref05_Parse.last _ s x i _ ?_ ?_ ?_
      · intro c1
        have : Go.Proofs.YtalkodandfjkmaaDoor.Dig.val c < 0 := by
          rw [e] at c1
          split at c1
          · assumption
          · omega
        rw [Go.Proofs.YtalkodandfjkmaaDoor.Dig.pars, if_pos this]; rfl
      · intro c1 c2 c3
        have h5 : ¬ Go.Proofs.YtalkodandfjkmaaDoor.Dig.val c < 0 := by intro h; rw [e, if_pos h] at c1; omega
        rw [e, if_neg h5] at c3
        obtain rfl : i = 0 := by omega
        rw [Go.Proofs.YtalkodandfjkmaaDoor.Dig.pars, if_neg h5, if_pos ⟨rfl, c3⟩]; rfl
      · intro c1 c2
        have h5 : ¬ Go.Proofs.YtalkodandfjkmaaDoor.Dig.val c < 0 := by intro h; rw [e, if_pos h] at c1; omega
        rw [e, if_neg h5] at c2 ⊢
        have hn : ¬ ((i == 0) = true ∧ 15 < Go.Proofs.YtalkodandfjkmaaDoor.Dig.val c) := by
          rintro ⟨h6, h7⟩
          exact c2 (by simp at h6; omega) h7
        rw [Go.Proofs.YtalkodandfjkmaaDoor.Dig.pars, if_neg h5, if_neg hn, wu_one i (by omega)]
        have hw : IntKind.u64.wrap (Go.Proofs.YtalkodandfjkmaaDoor.Dig.val c) = Go.Proofs.YtalkodandfjkmaaDoor.Dig.val c := by rw [IntKind.wrap_u64]; omega
        have hx1 : x * 32 + Go.Proofs.YtalkodandfjkmaaDoor.Dig.val c < Go.Proofs.YtalkodandfjkmaaDoor.Dig.cap (i + 1) := by
          by_cases hi0 : i = 0
          · subst hi0
            have h8 := c2 rfl
            rw [Go.Proofs.YtalkodandfjkmaaDoor.Dig.cap_zero] at h1
            rw [Go.Proofs.YtalkodandfjkmaaDoor.Dig.cap_one]
            omega
          · exact hcap hi0 _ hlt
        have ho := Go.Proofs.YtalkodandfjkmaaDoor.Dig.or_add x (Go.Proofs.YtalkodandfjkmaaDoor.Dig.val c) h0 (by omega) hlt (by omega)
        rw [hw] at ho
        rw [ho]
        have := ih (i + 1) (x * 32 + Go.Proofs.YtalkodandfjkmaaDoor.Dig.val c) (by omega) (by omega) hx1
        simpa using this
    by_cases c1 : (c.toNat : Int) ≥ 97
    · refine Ev.pos c1 ?_
      refine Ev.step (fun _ => by simp only [flotillaref05_Parse.j1]; rfl) ?_
      by_cases c2 : (c.toNat : Int) ≤ 122
      · refine Ev.pos (decide_eq_true c2) ?_
        refine flotillaref05_Parse.mid _ s x i c _ ?_ (.inr (by omega)) hend
        intro _
        rw [hv, if_pos (by omega)]
        omega
      · refine Ev.neg (by simp; omega) ?_
        refine flotillaref05_Parse.mid _ s x i c _ ?_ (.inl (by omega)) hend
        intro _
        rw [hv, if_neg (by omega), if_neg (by omega)]
    · refine Ev.neg c1 ?_
      refine Ev.step (fun _ => by simp only [flotillaref05_Parse.j1]; rfl) ?_
      refine Ev.neg (by decide) ?_
      refine flotillaref05_Parse.mid _ s x i c _ ?_ (.inl (by omega)) hend
      intro h
      rw [hv, if_neg (by omega), if_neg h]
theorem flotillaref05_Parse.ev (s : ByteArray) : Ev (fun k => flotillaref05_Parse.f k s) (if s.size = 13 then flotillaref05_Parse.told (Go.Proofs.YtalkodandfjkmaaDoor.Dig.pars s.data.toList true 0) else (0, 4)) := by
  unfold flotillaref05_Parse.f
  by_cases h : s.size = 13
  · refine Ev.pos (by omega) ?_
    rw [if_pos h]
    exact flotillaref05_Parse.loop s h 13 0 0 rfl (by omega) (by rw [Go.Proofs.YtalkodandfjkmaaDoor.Dig.cap_zero]; omega)
  · refine Ev.neg (by omega) ?_
    rw [if_neg h]
    exact Ev.now _

/-! ### strings_IndexByte: function 14 -/
def strings_IndexByte.f (a0 : ByteArray) (a1 : Int) : Option Int := some (Lib.indexByte a0.data.toList a1.toNat.toUInt8)
theorem strings_IndexByte.calls (a0 : ByteArray) (a1 : Int) (r : Int) (w : World) (h : strings_IndexByte.f a0 a1 = some r) :
    Calls Tryd.prog 14 #[.string a0, .int .u8 a1] w fun e w' => e = .returned (.int .i64 r) ∧ Drawn0 w w' := by
  obtain rfl := Option.some.inj h
  refine (Tryd.strings_IndexByte a0 a1 w).mono ?_
  rintro e w' ⟨rfl, rfl⟩
  exact ⟨rfl, Drawn0.refl _⟩

/-! ### digest_Parse: function 6 -/
def digest_Parse.l0 : Nat → ByteArray → Int → Int → Int → Option (Int × Option Int)
  | 0, _, _, _, _ => none
  | k + 1, x0, x4, x12, x13 => if x13 < x12 then (if 0 ≤ x13 then (if x13 < (x0.size : Int) then ((strings_IndexByte.f (⟨#[97, 98, 99, 100, 101, 102, 103, 104, 105, 106, 107, 108, 109, 110, 111, 112, 113, 114, 115, 116, 117, 118, 119, 120, 121, 122, 50, 51, 52, 53, 54, 55]⟩ : ByteArray) (bt x0 x13)).bind fun t101 => (if t101 < 0 then (some (0, some 4)) else (if x13 = 0 then (if t101 > 15 then (some (0, some 4)) else (digest_Parse.l0 k x0 (Go.bits .or .u64 (IntKind.u64.wrap (x4 * 32)) (IntKind.u64.wrap (t101))) x12 (wrap64 (x13 + 1)))) else (digest_Parse.l0 k x0 (Go.bits .or .u64 (IntKind.u64.wrap (x4 * 32)) (IntKind.u64.wrap (t101))) x12 (wrap64 (x13 + 1)))))) else (none)) else (none)) else (some (x4, none))
def digest_Parse.f (k : Nat) (a0 : ByteArray) : Option (Int × Option Int) := if (a0.size : Int) = 13 then (digest_Parse.l0 k a0 0 (a0.size : Int) 0) else (some (0, some 4))
theorem digest_Parse.mono_l : ∀ k, (∀ y0 y1 y2 y3, LeO (digest_Parse.l0 k y0 y1 y2 y3) (digest_Parse.l0 (k + 1) y0 y1 y2 y3))
  | 0 => fun _ _ _ _ r h => by simp [digest_Parse.l0] at h
  | k + 1 => by
    have ih0 := digest_Parse.mono_l k
    · intro y0 y1 y2 y3
      unfold digest_Parse.l0
      repeat' first
      | (with_reducible exact ih0 _ _ _ _)
      | (with_reducible exact LeO.refl _)
      | (with_reducible exact LeO.none _)
      | (with_reducible refine LeO.ite ?_ ?_)
      | (with_reducible refine LeO.bind ?_ (fun _ => ?_))
      | exact ih0 _ _ _ _
      | exact LeO.none _
      | refine LeO.ite ?_ ?_
      | refine LeO.bind ?_ (fun _ => ?_)
theorem digest_Parse.mono : ∀ a0 k, LeO (digest_Parse.f k a0) (digest_Parse.f (k + 1) a0) := by
  intro a0 k
  have ih0 := digest_Parse.mono_l k
  unfold digest_Parse.f
  repeat' first
      | (with_reducible exact ih0 _ _ _ _)
      | (with_reducible exact LeO.refl _)
      | (with_reducible exact LeO.none _)
      | (with_reducible refine LeO.ite ?_ ?_)
      | (with_reducible refine LeO.bind ?_ (fun _ => ?_))
      | exact ih0 _ _ _ _
      | exact LeO.none _
      | refine LeO.ite ?_ ?_
      | refine LeO.bind ?_ (fun _ => ?_)
set_option maxHeartbeats 8000000 in
set_option maxRecDepth 100000 in
theorem digest_Parse.calls (k : Nat) (a0 : ByteArray) (r1 : Int) (r2 : Option Int) (w : World) (h : digest_Parse.f k a0 = some (r1, r2)) :
    Calls Tryd.prog 6 #[.string a0] w fun e w' => e = .returned (.tuple #[.int .u64 r1, errW r2]) ∧ Drawn0 w w' := by
  have hu26 := Tryd.underlying26
  have hu46 := Tryd.underlying46
  have H : (if (a0.size : Int) = 13 then (digest_Parse.l0 k a0 0 (a0.size : Int) 0) else (some (0, some 4))) = some (r1, r2) := h
  clear h
  by_cases c2 : (a0.size : Int) = 13
  · rw [if_pos c2] at H
    have c2b0 : ((a0.size : Int) == 13) = true := beq_iff_eq.mpr c2
    have c2b1 : ((a0.size : Int) != 13) = false := bne_eq_false_iff_eq.mpr c2
    clear c2
    have H' := Aside0.mk H
    clear H
    go_enter Tryd.func6, Tryd.ntmps6
    go_wp2
    go_loopg [4, 13] k (fun kq v4 v13 w' => ∃ (x4_1 : Int) (x13_1 : Int), v4 = .int .u64 x4_1 ∧ v13 = .int .i64 x13_1 ∧ Aside0 (digest_Parse.l0 kq a0 x4_1 (a0.size : Int) x13_1 = some (r1, r2)) ∧ Aside0 (kq ≤ k) ∧ Drawn0 w w')
    case atStart => exact ⟨(0), (0), (by first | rfl | (simp; done) | (simp [*]; done)), (by first | rfl | (simp; done) | (simp [*]; done)), H', ⟨Nat.le_refl _⟩, by repeat (first | exact Drawn0.refl _ | apply Drawn0.step)⟩
    case round =>
      clear H'
      try clear c2
      try clear c2b0
      try clear c2b1
      try clear p2
      obtain ⟨x4_1, x13_1, rfl, rfl, HA, HK1, ⟨m1, rfl⟩⟩ := hrel
      cases gk with
      | zero => exact absurd HA.out (by simp [digest_Parse.l0])
      | succ k1 =>
        have H := HA.out
        clear HA
        simp only [digest_Parse.l0] at H
        by_cases c3 : x13_1 < (a0.size : Int)
        · rw [if_pos c3] at H
          have c3b0 : decide (x13_1 < (a0.size : Int)) = true := decide_eq_true c3
          clear c3
          by_cases c4 : 0 ≤ x13_1
          · rw [if_pos c4] at H
            have c4b0 : decide (0 ≤ x13_1) = true := decide_eq_true c4
            clear c4
            by_cases c5 : x13_1 < (a0.size : Int)
            · rw [if_pos c5] at H
              have c5b0 : decide (x13_1 < (a0.size : Int)) = true := decide_eq_true c5
              clear c5
              replace H := Option.bind_eq_some_iff.mp H
              obtain ⟨t101, A70, H⟩ := H
              replace H : (if t101 < 0 then (some (0, some 4)) else (if x13_1 = 0 then (if t101 > 15 then (some (0, some 4)) else (digest_Parse.l0 k1 a0 (Go.bits .or .u64 (IntKind.u64.wrap (x4_1 * 32)) (IntKind.u64.wrap (t101))) (a0.size : Int) (wrap64 (x13_1 + 1)))) else (digest_Parse.l0 k1 a0 (Go.bits .or .u64 (IntKind.u64.wrap (x4_1 * 32)) (IntKind.u64.wrap (t101))) (a0.size : Int) (wrap64 (x13_1 + 1))))) = some (r1, r2) := H
              have A7 := Aside0.mk A70
              clear A70
              by_cases c8 : t101 < 0
              · rw [if_pos c8] at H
                have c8b0 : decide (t101 < 0) = true := decide_eq_true c8
                clear c8
                simp only [Option.some.injEq, Prod.mk.injEq] at H
                obtain ⟨rfl, rfl⟩ := H
                have p6 : 0 ≤ (x13_1 : Int) := of_decide_eq_true (by first | (with_reducible assumption) | assumption)
                have q6 : x13_1 < (a0.size : Int) := of_decide_eq_true (by first | (with_reducible assumption) | assumption)
                have hx6 := bt_at a0 x13_1
                replace p6 := eq_true p6
                replace q6 := eq_true q6
                go_wp2_with (first | ((with_reducible refine gate_callee (f := 14) rfl ?_); refine goesL_ (some 19) rfl rfl Tryd.func14 (by kernel_rfl) rfl #[.string (⟨#[97, 98, 99, 100, 101, 102, 103, 104, 105, 106, 107, 108, 109, 110, 111, 112, 113, 114, 115, 116, 117, 118, 119, 120, 121, 122, 50, 51, 52, 53, 54, 55]⟩ : ByteArray), .int .u8 (bt a0 x13_1)] rfl (by (try simp only [List.map_toArray, List.map_cons, List.map_nil]); first | done | rfl | (simp only [List.length_drop, List.length_take]; rfl)) ?_; (with_reducible refine (strings_IndexByte.calls (⟨#[97, 98, 99, 100, 101, 102, 103, 104, 105, 106, 107, 108, 109, 110, 111, 112, 113, 114, 115, 116, 117, 118, 119, 120, 121, 122, 50, 51, 52, 53, 54, 55]⟩ : ByteArray) (bt a0 x13_1) t101 _ A7.out).mono ?_); rintro e w' ⟨rfl, ⟨nd, rfl⟩⟩; refine ⟨_, rfl, ?_⟩))
                go_ret2
                exact ⟨by first | rfl | (simp; done) | (simp [*]; done), by repeat (first | exact Drawn0.refl _ | apply Drawn0.step)⟩
              · rw [if_neg c8] at H
                have c8b0 : decide (t101 < 0) = false := decide_eq_false c8
                clear c8
                by_cases c9 : x13_1 = 0
                · rw [if_pos c9] at H
                  have c9b0 : (x13_1 == 0) = true := beq_iff_eq.mpr c9
                  have c9b1 : (x13_1 != 0) = false := bne_eq_false_iff_eq.mpr c9
                  clear c9
                  by_cases c10 : t101 > 15
                  · rw [if_pos c10] at H
                    have c10b0 : decide (15 < t101) = true := decide_eq_true c10
                    clear c10
                    simp only [Option.some.injEq, Prod.mk.injEq] at H
                    obtain ⟨rfl, rfl⟩ := H
                    have p6 : 0 ≤ (x13_1 : Int) := of_decide_eq_true (by first | (with_reducible assumption) | assumption)
                    have q6 : x13_1 < (a0.size : Int) := of_decide_eq_true (by first | (with_reducible assumption) | assumption)
                    have hx6 := bt_at a0 x13_1
                    replace p6 := eq_true p6
                    replace q6 := eq_true q6
                    go_wp2_with (first | ((with_reducible refine gate_callee (f := 14) rfl ?_); refine goesL_ (some 19) rfl rfl Tryd.func14 (by kernel_rfl) rfl #[.string (⟨#[97, 98, 99, 100, 101, 102, 103, 104, 105, 106, 107, 108, 109, 110, 111, 112, 113, 114, 115, 116, 117, 118, 119, 120, 121, 122, 50, 51, 52, 53, 54, 55]⟩ : ByteArray), .int .u8 (bt a0 x13_1)] rfl (by (try simp only [List.map_toArray, List.map_cons, List.map_nil]); first | done | rfl | (simp only [List.length_drop, List.length_take]; rfl)) ?_; (with_reducible refine (strings_IndexByte.calls (⟨#[97, 98, 99, 100, 101, 102, 103, 104, 105, 106, 107, 108, 109, 110, 111, 112, 113, 114, 115, 116, 117, 118, 119, 120, 121, 122, 50, 51, 52, 53, 54, 55]⟩ : ByteArray) (bt a0 x13_1) t101 _ A7.out).mono ?_); rintro e w' ⟨rfl, ⟨nd, rfl⟩⟩; refine ⟨_, rfl, ?_⟩))
                    go_ret2
                    exact ⟨by first | rfl | (simp; done) | (simp [*]; done), by repeat (first | exact Drawn0.refl _ | apply Drawn0.step)⟩
                  · rw [if_neg c10] at H
                    have c10b0 : decide (15 < t101) = false := decide_eq_false c10
                    clear c10
                    have H' := Aside0.mk H
                    clear H
                    have p6 : 0 ≤ (x13_1 : Int) := of_decide_eq_true (by first | (with_reducible assumption) | assumption)
                    have q6 : x13_1 < (a0.size : Int) := of_decide_eq_true (by first | (with_reducible assumption) | assumption)
                    have hx6 := bt_at a0 x13_1
                    replace p6 := eq_true p6
                    replace q6 := eq_true q6
                    go_wp2_with (first | ((with_reducible refine gate_callee (f := 14) rfl ?_); refine goesL_ (some 19) rfl rfl Tryd.func14 (by kernel_rfl) rfl #[.string (⟨#[97, 98, 99, 100, 101, 102, 103, 104, 105, 106, 107, 108, 109, 110, 111, 112, 113, 114, 115, 116, 117, 118, 119, 120, 121, 122, 50, 51, 52, 53, 54, 55]⟩ : ByteArray), .int .u8 (bt a0 x13_1)] rfl (by (try simp only [List.map_toArray, List.map_cons, List.map_nil]); first | done | rfl | (simp only [List.length_drop, List.length_take]; rfl)) ?_; (with_reducible refine (strings_IndexByte.calls (⟨#[97, 98, 99, 100, 101, 102, 103, 104, 105, 106, 107, 108, 109, 110, 111, 112, 113, 114, 115, 116, 117, 118, 119, 120, 121, 122, 50, 51, 52, 53, 54, 55]⟩ : ByteArray) (bt a0 x13_1) t101 _ A7.out).mono ?_); rintro e w' ⟨rfl, ⟨nd, rfl⟩⟩; refine ⟨_, rfl, ?_⟩))
                    go_roundg k1
                    case measure => have := HK1.out; omega
                    case rel => exact ⟨(Go.bits .or .u64 (IntKind.u64.wrap (x4_1 * 32)) (IntKind.u64.wrap (t101))), (wrap64 (x13_1 + 1)), (by first | rfl | (simp; done) | (simp [*]; done)), (by first | rfl | (simp; done) | (simp [*]; done)), H', ⟨by have := HK1.out; omega⟩, by repeat (first | exact Drawn0.refl _ | apply Drawn0.step)⟩
                · rw [if_neg c9] at H
                  have c9b0 : (x13_1 == 0) = false := beq_eq_false_iff_ne.mpr c9
                  have c9b1 : (x13_1 != 0) = true := bne_iff_ne.mpr c9
                  have H' := Aside0.mk H
                  clear H
                  have p6 : 0 ≤ (x13_1 : Int) := of_decide_eq_true (by first | (with_reducible assumption) | assumption)
                  have q6 : x13_1 < (a0.size : Int) := of_decide_eq_true (by first | (with_reducible assumption) | assumption)
                  have hx6 := bt_at a0 x13_1
                  replace p6 := eq_true p6
                  replace q6 := eq_true q6
                  go_wp2_with (first | ((with_reducible refine gate_callee (f := 14) rfl ?_); refine goesL_ (some 19) rfl rfl Tryd.func14 (by kernel_rfl) rfl #[.string (⟨#[97, 98, 99, 100, 101, 102, 103, 104, 105, 106, 107, 108, 109, 110, 111, 112, 113, 114, 115, 116, 117, 118, 119, 120, 121, 122, 50, 51, 52, 53, 54, 55]⟩ : ByteArray), .int .u8 (bt a0 x13_1)] rfl (by (try simp only [List.map_toArray, List.map_cons, List.map_nil]); first | done | rfl | (simp only [List.length_drop, List.length_take]; rfl)) ?_; (with_reducible refine (strings_IndexByte.calls (⟨#[97, 98, 99, 100, 101, 102, 103, 104, 105, 106, 107, 108, 109, 110, 111, 112, 113, 114, 115, 116, 117, 118, 119, 120, 121, 122, 50, 51, 52, 53, 54, 55]⟩ : ByteArray) (bt a0 x13_1) t101 _ A7.out).mono ?_); rintro e w' ⟨rfl, ⟨nd, rfl⟩⟩; refine ⟨_, rfl, ?_⟩))
                  go_roundg k1
                  case measure => have := HK1.out; omega
                  case rel => exact ⟨(Go.bits .or .u64 (IntKind.u64.wrap (x4_1 * 32)) (IntKind.u64.wrap (t101))), (wrap64 (x13_1 + 1)), (by first | rfl | (simp; done) | (simp [*]; done)), (by first | rfl | (simp; done) | (simp [*]; done)), H', ⟨by have := HK1.out; omega⟩, by repeat (first | exact Drawn0.refl _ | apply Drawn0.step)⟩
            · rw [if_neg c5] at H
              exact absurd H (by simp)
          · rw [if_neg c4] at H
            exact absurd H (by simp)
        · rw [if_neg c3] at H
          have c3b0 : decide (x13_1 < (a0.size : Int)) = false := decide_eq_false c3
          clear c3
          simp only [Option.some.injEq, Prod.mk.injEq] at H
          obtain ⟨rfl, rfl⟩ := H
          go_wp2
          go_ret2
          exact ⟨by first | rfl | (simp; done) | (simp [*]; done), by repeat (first | exact Drawn0.refl _ | apply Drawn0.step)⟩
  · rw [if_neg c2] at H
    have c2b0 : ((a0.size : Int) == 13) = false := beq_eq_false_iff_ne.mpr c2
    have c2b1 : ((a0.size : Int) != 13) = true := bne_iff_ne.mpr c2
    simp only [Option.some.injEq, Prod.mk.injEq] at H
    obtain ⟨rfl, rfl⟩ := H
    go_enter Tryd.func6, Tryd.ntmps6
    go_wp2
    go_ret2
    exact ⟨by first | rfl | (simp; done) | (simp [*]; done), by repeat (first | exact Drawn0.refl _ | apply Drawn0.step)⟩
def digest_Parse.told (r : Option Int) : Int × Option Int := match r with | some y => (y, none) | none => (0, some 4)
theorem digest_Parse.next (i : Nat) (h : i < 13) : wrap64 ((i : Int) + 1) = ((i + 1 : Nat) : Int) := by
  rw [IntWalk.wrap64_in _ ⟨by omega, by omega⟩]; rfl
theorem digest_Parse.loop (s : ByteArray) (hs : s.size = 13) (d : Nat) : ∀ (k i : Nat) (x : Int), i + d = 13 → d < k → 0 ≤ x → x < Dig.cap i →
    digest_Parse.l0 k s x (s.size : Int) (i : Int) = some (digest_Parse.told (Dig.pars (s.data.toList.drop i) (i == 0) x)) := by
  have hsz : s.data.toList.length = 13 := by rw [Array.length_toList]; exact hs
  induction d with
  | zero =>
    intro k i x hi hk h0 h1
    obtain ⟨k, rfl⟩ : ∃ m, k = m + 1 := ⟨k - 1, by omega⟩
    simp only [digest_Parse.l0]
    rw [if_neg (by omega), List.drop_eq_nil_of_le (by omega)]
    rfl
  | succ d ih =>
    intro k i x hi hk h0 h1
    obtain ⟨k, rfl⟩ : ∃ m, k = m + 1 := ⟨k - 1, by omega⟩
    simp only [digest_Parse.l0]
    have hil : i < s.data.toList.length := by omega
    rw [if_pos (by omega), if_pos (by omega), if_pos (by omega)]
    have hb : bt s (i : Int) = ((s.data.toList[i]'hil).toNat : Int) := by
      unfold bt
      rw [dif_pos (show (i : Int).toNat < s.size by omega)]
      rfl
    have hf : strings_IndexByte.f (⟨#[97, 98, 99, 100, 101, 102, 103, 104, 105, 106, 107, 108, 109, 110, 111, 112, 113, 114, 115, 116, 117, 118, 119, 120, 121, 122, 50, 51, 52, 53, 54, 55]⟩ : ByteArray) (bt s (i : Int)) = some (Dig.val (s.data.toList[i]'hil)) := by
      unfold strings_IndexByte.f
      rw [hb]
      simp only [Int.toNat_natCast, Nat.toUInt8_eq, UInt8.ofNat_toNat]
      rfl
    rw [hf, List.drop_eq_getElem_cons hil]
    generalize s.data.toList[i]'hil = c
    simp only [Option.bind_some, Dig.pars]
    have hv := Dig.val_lt c
    by_cases c1 : Dig.val c < 0
    · rw [if_pos c1, if_pos c1]; rfl
    · rw [if_neg c1, if_neg c1]
      have hcap : i ≠ 0 → x * 32 + Dig.val c < Dig.cap (i + 1) := by
        intro hi0
        rw [Dig.cap_succ i hi0]; omega
      have hmax := Dig.cap_max i (by omega)
      by_cases c2 : (i : Int) = 0
      · rw [if_pos c2]
        obtain rfl : i = 0 := by omega
        by_cases c3 : Dig.val c > 15
        · rw [if_pos c3, if_pos ⟨by simp, c3⟩]; rfl
        · rw [if_neg c3, if_neg (fun h => c3 h.2)]
          rw [Dig.cap_zero] at h1
          have hx1 : x * 32 + Dig.val c < Dig.cap 1 := by rw [Dig.cap_one]; omega
          rw [Dig.or_add x (Dig.val c) h0 (by omega) hv (by omega), digest_Parse.next 0 (by omega)]
          have := ih k 1 (x * 32 + Dig.val c) (by omega) (by omega) (by omega) hx1
          exact this
      · rw [if_neg c2, if_neg (fun h => c2 (by simpa using h.1))]
        have hi0 : i ≠ 0 := by omega
        rw [Dig.or_add x (Dig.val c) h0 (by omega) hv (by have := hcap hi0; omega), digest_Parse.next i (by omega)]
        have := ih k (i + 1) (x * 32 + Dig.val c) (by omega) (by omega) (by omega) (hcap hi0)
        simpa using this
theorem digest_Parse.spec (s : ByteArray) (k : Nat) (hk : 13 < k) : digest_Parse.f k s = some (if s.size = 13 then digest_Parse.told (Dig.pars s.data.toList true 0) else (0, some 4)) := by
  unfold digest_Parse.f
  by_cases h : s.size = 13
  · rw [if_pos (by omega), if_pos h]
    exact digest_Parse.loop s h 13 k 0 0 (by omega) hk (by omega) (by rw [Dig.cap_zero]; omega)
  · rw [if_neg (by omega), if_neg h]
theorem digest_Parse.text (h : Int) (hh : Dig.U64 h) (k : Nat) (hk : 13 < k) : digest_Parse.f k (Dig.textB h) = some (h, none) := by
  rw [digest_Parse.spec _ k hk, if_pos (show (Dig.textB h).size = 13 from rfl)]
  have e : (Dig.textB h).data.toList = (List.range' 0 13).map fun j => Dig.letter (Dig.five h (12 - j)) := rfl
  have e0 : h / 32 ^ (13 - 0) = 0 := by
    rw [show 13 - 0 = 13 from rfl, Dig.pow_13]
    have := hh.1; have := hh.2
    omega
  have := Dig.pars_text h hh 13 0 rfl
  rw [e0] at this
  rw [e]
  simp only [beq_self_eq_true] at this
  rw [this]
  rfl
theorem digest_Parse.back (s : ByteArray) (y : Int) (k : Nat) (hk : 13 < k) (h : digest_Parse.f k s = some (y, none)) : Dig.textB y = s := by
  rw [digest_Parse.spec _ k hk] at h
  split at h
  · rename_i hs
    have hsz : s.data.toList.length = 13 := by rw [Array.length_toList]; exact hs
    cases hp : Dig.pars s.data.toList true 0 with
    | none => rw [hp] at h; simp [digest_Parse.told] at h
    | some z =>
      rw [hp] at h
      simp only [digest_Parse.told, Option.some.injEq, Prod.mk.injEq, and_true] at h
      subst h
      have hc := Dig.pars_cap s.data.toList 0 0 z (by omega) (by rw [Dig.cap_zero]; omega) (by simpa using hp)
      rw [hsz] at hc
      obtain ⟨h0, h1, h2⟩ := Dig.pars_back s.data.toList true 0 z (by omega) hp
      have hu : Dig.U64 z := ⟨h0, by rw [Dig.cap_13] at hc; exact hc⟩
      have e : (Dig.textB z).data.toList = s.data.toList := by
        apply List.ext_getElem?
        intro j
        have e1 : (Dig.textB z).data.toList = (List.range' 0 13).map fun j => Dig.letter (Dig.five z (12 - j)) := rfl
        by_cases hj : j < 13
        · have hjs : j < s.data.toList.length := by omega
          rw [List.getElem?_eq_getElem hjs, h2 j _ (List.getElem?_eq_getElem hjs), e1, List.getElem?_map, List.getElem?_range' hj, hsz]
          simp only [Option.map_some, Nat.zero_add, Nat.one_mul]
          rw [Dig.five_eq z hu]
        · rw [List.getElem?_eq_none (l := s.data.toList) (by omega), e1, List.getElem?_eq_none (by rw [List.length_map, List.length_range']; omega)]
      have e3 : (Dig.textB z).data = s.data := Array.toList_inj.1 e
      cases s with
      | mk d => exact congrArg ByteArray.mk e3
  · simp at h

/-! ### digest_Text: function 7 -/
def digest_Text.f (a0 : Int) : Option ByteArray := some (Go.Proofs.YtalkodandfjkmaaDoor.Dig.textB a0)
theorem digest_Text.calls (a0 : Int) (r : ByteArray) (w : World) (h : digest_Text.f a0 = some r) :
    Calls Tryd.prog 7 #[.int .u64 a0] w fun e w' => e = .returned (.string r) ∧ Below w.heap.size w w' := by
  obtain rfl := Option.some.inj h
  exact Go.Proofs.YtalkodandfjkmaaDoor.Dig.text_calls a0 w

end Go.Proofs.YtalkodandfjkmaaDoor.Print
