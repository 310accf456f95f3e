/- The functions below as plain Lean functions, each with the proof that the calls come to it; written by a program over the kit's print. -/
import Derived.Test.YtkifbcjmmkbilaaPrintx0
namespace Go.Proofs.Ytkifbcjmmkbilaa.Print
open Go.RowKit Go.Proofs.YtkifbcjmmkbilaaW.PrintWords Go.Proofs.YtkifbcjmmkbilaaW.PrintLast Go.Proofs.YtkifbcjmmkbilaaW.PrintMore
attribute [local go_sem] max2_int min2_int max_two min_two max_three min_three max_four min_four   -- for this text's walks alone
set_option linter.unusedVariables false
set_option linter.unusedSimpArgs false

/-! ### flotillalaw22_row: function 11 -/
def flotillalaw22_row.l0 : Nat → List Bool → Bool → Int → Int → Int → Option (Int)
  | 0, _, _, _, _, _ => none
  | k + 1, x0, x1, x5, x6, x7 => if x7 < (x0.length : Int) then (if 0 ≤ x7 then (if ((rdOf false x0 x7) == x1) = true then (flotillalaw22_row.l0 k x0 x1 (wrap64 (x5 + 1)) (mx x6 (wrap64 (x5 + 1))) (wrap64 (x7 + 1))) else (flotillalaw22_row.l0 k x0 x1 0 (mx x6 0) (wrap64 (x7 + 1)))) else (none)) else (some x6)
def flotillalaw22_row.f (k : Nat) (l0 : List Bool) (a1 : Bool) : Option (Int) := flotillalaw22_row.l0 k l0 a1 0 0 0
theorem flotillalaw22_row.mono_l : ∀ k, (∀ y0 y1 y2 y3 y4, LeO (flotillalaw22_row.l0 k y0 y1 y2 y3 y4) (flotillalaw22_row.l0 (k + 1) y0 y1 y2 y3 y4))
  | 0 => fun _ _ _ _ _ r h => by simp [flotillalaw22_row.l0] at h
  | k + 1 => by
    have ih0 := flotillalaw22_row.mono_l k
    · intro y0 y1 y2 y3 y4
      unfold flotillalaw22_row.l0
      repeat' first
      | (with_reducible exact ih0 _ _ _ _ _)
      | (with_reducible exact LeO.refl _)
      | (with_reducible exact LeO.none _)
      | (with_reducible refine LeO.ite ?_ ?_)
      | (with_reducible refine LeO.bind ?_ (fun _ => ?_))
      | exact ih0 _ _ _ _ _
      | exact LeO.none _
      | refine LeO.ite ?_ ?_
      | refine LeO.bind ?_ (fun _ => ?_)
theorem flotillalaw22_row.mono : ∀ a0 a1 k, LeO (flotillalaw22_row.f k a0 a1) (flotillalaw22_row.f (k + 1) a0 a1) := by
  intro a0 a1 k
  have ih0 := flotillalaw22_row.mono_l k
  unfold flotillalaw22_row.f
  repeat' first
      | (with_reducible exact ih0 _ _ _ _ _)
      | (with_reducible exact LeO.refl _)
      | (with_reducible exact LeO.none _)
      | (with_reducible refine LeO.ite ?_ ?_)
      | (with_reducible refine LeO.bind ?_ (fun _ => ?_))
      | exact ih0 _ _ _ _ _
      | exact LeO.none _
      | refine LeO.ite ?_ ?_
      | refine LeO.bind ?_ (fun _ => ?_)
set_option maxHeartbeats 8000000 in
set_option maxRecDepth 100000 in
theorem flotillalaw22_row.calls (k : Nat) (A0 : Option Addr) (c0 : Nat) (l0 : List Bool) (a1 : Bool) (r : Int) (w : World) (hr0 : Kd.C Kd.bool w A0 l0.length l0) (hc0 : l0.length ≤ c0) (h : flotillalaw22_row.f k l0 a1 = some r) :
    Calls Try.prog 11 #[.slice A0 l0.length c0, .bool a1] w fun e w' => e = .returned (.int .i64 r) ∧ Below w.heap.size w w' := by
  have HR0 := Aside0.mk hr0
  have HC0 := Aside0.mk hc0
  clear hr0 hc0
  have HB := Aside0.mk (Below.refl w.heap.size w)
  have H : (flotillalaw22_row.l0 k l0 a1 0 0 0) = some r := h
  clear h
  have H' := Aside0.mk H
  clear H
  go_enter Try.func11, Try.ntmps11
  go_wp2
  go_loopg [5, 6, 7] k (fun kq v5 v6 v7 w' => ∃ (x5_1 : Int) (x6_1 : Int) (x7_1 : Int), v5 = .int .i64 x5_1 ∧ v6 = .int .i64 x6_1 ∧ v7 = .int .i64 x7_1 ∧ Aside0 (flotillalaw22_row.l0 kq l0 a1 x5_1 x6_1 x7_1 = some r) ∧ Aside0 (kq ≤ k) ∧ Aside0 (Below w.heap.size w w'))
  case atStart => exact ⟨(0), (0), (0), (by first | rfl | (simp; done) | (simp [*]; done)), (by first | rfl | (simp; done) | (simp [*]; done)), (by first | rfl | (simp; done) | (simp [*]; done)), H', ⟨Nat.le_refl _⟩, ⟨by repeat (first | (with_reducible first | exact HB.out | apply below_alloc | apply pw_below_drewN | apply below_drew1) | exact HB.out)⟩⟩
  case round =>
    clear H'
    try clear c1
    try clear p2
    obtain ⟨x5_1, x6_1, x7_1, rfl, rfl, rfl, HA, HK1, HB⟩ := hrel
    cases gk with
    | zero => exact absurd HA.out (by simp [flotillalaw22_row.l0])
    | succ k1 =>
      have H := HA.out
      clear HA
      simp only [flotillalaw22_row.l0] at H
      by_cases c3 : x7_1 < (l0.length : Int)
      · rw [if_pos c3] at H
        have c3b0 : decide (x7_1 < (l0.length : Int)) = true := decide_eq_true c3
        clear c3
        by_cases c4 : 0 ≤ x7_1
        · rw [if_pos c4] at H
          have c4b0 : decide (0 ≤ x7_1) = true := decide_eq_true c4
          clear c4
          by_cases c5 : ((rdOf false l0 x7_1) == a1) = true
          · rw [if_pos c5] at H
            have c5b0 : ((rdOf false l0 x7_1) == a1) = true := c5
            (try (have c5b1 : decide ((rdOf false l0 x7_1) = a1) = true := by simpa using c5))
            (try (have c5b2 : ((rdOf false l0 x7_1) == a1) = true := by simpa using c5))
            clear c5
            obtain ⟨ji6, hji6⟩ : ∃ j_ : Int, (mx x6_1 (wrap64 (x5_1 + 1))) = j_ := ⟨_, rfl⟩
            replace H : (flotillalaw22_row.l0 k1 l0 a1 (wrap64 (x5_1 + 1)) ji6 (wrap64 (x7_1 + 1))) = some r := by first | (rw [hji6] at H; exact H) | (simp only [hji6] at H ⊢; exact H)
            have hji6_ : (if x6_1 < (wrap64 (x5_1 + 1)) then (wrap64 (x5_1 + 1)) else x6_1) = ji6 := hji6
            have H' := Aside0.mk H
            clear H
            have p148 : 0 ≤ (x7_1 : Int) := of_decide_eq_true (by first | (with_reducible assumption) | assumption)
            have q148 : x7_1 < (l0.length : Int) := of_decide_eq_true (by first | (with_reducible assumption) | assumption)
            obtain ⟨ad148, e148, hx148_0⟩ := Kd.at_bool HR0.out x7_1 p148 q148
            cases e148
            replace hx148_0 := (HB.out.cell (World.block_lt_of_cell? w _ hx148_0)).trans hx148_0
            replace p148 := eq_true p148
            replace q148 := eq_true q148
            go_wp2
            go_roundg k1
            case measure => have := HK1.out; omega
            case rel => exact ⟨(wrap64 (x5_1 + 1)), (ji6), (wrap64 (x7_1 + 1)), (by first | rfl | (simp; done) | (simp [*]; done)), (by first | rfl | (simp; done) | (simp only [← hji6] <;> (first | rfl | simp)) | (simp [*]; done)), (by first | rfl | (simp; done) | (simp [*]; done)), H', ⟨by have := HK1.out; omega⟩, ⟨by repeat (first | (with_reducible first | exact HB.out | apply below_alloc | apply pw_below_drewN | apply below_drew1) | exact HB.out)⟩⟩
          · rw [if_neg c5] at H
            have c5b0 : ((rdOf false l0 x7_1) == a1) = false := by simpa using c5
            (try (have c5b1 : decide ((rdOf false l0 x7_1) = a1) = false := by simpa using c5))
            (try (have c5b2 : ((rdOf false l0 x7_1) == a1) = false := by simpa using c5))
            (try (have c5b3 : ¬ ((rdOf false l0 x7_1) = a1) := by simpa using c5))
            clear c5
            obtain ⟨ji7, hji7⟩ : ∃ j_ : Int, (mx x6_1 0) = j_ := ⟨_, rfl⟩
            replace H : (flotillalaw22_row.l0 k1 l0 a1 0 ji7 (wrap64 (x7_1 + 1))) = some r := by first | (rw [hji7] at H; exact H) | (simp only [hji7] at H ⊢; exact H)
            have hji7_ : (if x6_1 < 0 then 0 else x6_1) = ji7 := hji7
            have H' := Aside0.mk H
            clear H
            have p148 : 0 ≤ (x7_1 : Int) := of_decide_eq_true (by first | (with_reducible assumption) | assumption)
            have q148 : x7_1 < (l0.length : Int) := of_decide_eq_true (by first | (with_reducible assumption) | assumption)
            obtain ⟨ad148, e148, hx148_0⟩ := Kd.at_bool HR0.out x7_1 p148 q148
            cases e148
            replace hx148_0 := (HB.out.cell (World.block_lt_of_cell? w _ hx148_0)).trans hx148_0
            replace p148 := eq_true p148
            replace q148 := eq_true q148
            go_wp2
            go_roundg k1
            case measure => have := HK1.out; omega
            case rel => exact ⟨(0), (ji7), (wrap64 (x7_1 + 1)), (by first | rfl | (simp; done) | (simp [*]; done)), (by first | rfl | (simp; done) | (simp only [← hji7] <;> (first | rfl | simp)) | (simp [*]; done)), (by first | rfl | (simp; done) | (simp [*]; done)), H', ⟨by have := HK1.out; omega⟩, ⟨by repeat (first | (with_reducible first | exact HB.out | apply below_alloc | apply pw_below_drewN | apply below_drew1) | exact HB.out)⟩⟩
        · rw [if_neg c4] at H
          exact absurd H (by simp)
      · rw [if_neg c3] at H
        have c3b0 : decide (x7_1 < (l0.length : Int)) = false := decide_eq_false c3
        clear c3
        obtain rfl := Option.some.inj H
        go_wp2
        go_ret
        exact ⟨by first | rfl | (simp [errW_none, errW_some] <;> rfl) | (simp [*, errW_none, errW_some] <;> rfl), by repeat (first | (with_reducible first | exact HB.out | apply below_alloc | apply pw_below_drewN | apply below_drew1) | exact HB.out)⟩
def flotillalaw22_row.spec (l : List Bool) (ok : Bool) : Int × Int := l.foldl (Go.Proofs.Ytkifbcjmmkbilaa.Prb.rowG ok) (0, 0)
theorem flotillalaw22_row.loop (l : List Bool) (ok : Bool) (hl : l.length < 140737488355328) (d : Nat) : ∀ (k i : Nat) (n m : Int), 0 ≤ n → n ≤ i → i ≤ l.length → l.length - i = d → d < k →
    flotillalaw22_row.l0 k l ok n m (i : Int) = some ((l.drop i).foldl (Go.Proofs.Ytkifbcjmmkbilaa.Prb.rowG ok) (n, m)).2 := by
  induction d with
  | zero =>
    intro k i n m h0 h1 hi hd hk
    obtain ⟨k, rfl⟩ : ∃ m, k = m + 1 := ⟨k - 1, by omega⟩
    simp only [flotillalaw22_row.l0]
    rw [if_neg (by omega), List.drop_of_length_le (by omega)]
    rfl
  | succ d ih =>
    intro k i n m h0 h1 hi hd hk
    obtain ⟨k, rfl⟩ : ∃ m, k = m + 1 := ⟨k - 1, by omega⟩
    simp only [flotillalaw22_row.l0]
    have hlt : i < l.length := by omega
    rw [if_pos (by omega), if_pos (by omega)]
    have e1 : wrap64 ((i : Int) + 1) = ((i + 1 : Nat) : Int) := by rw [IntWalk.wrap64_in _ ⟨by omega, by omega⟩]; rfl
    have e2 : rdOf false l (i : Int) = l[i] := by simp [rdOf, List.getElem?_eq_getElem hlt]
    have e3 : wrap64 (n + 1) = n + 1 := IntWalk.wrap64_in _ ⟨by omega, by omega⟩
    have e4 : ∀ a b : Int, mx a b = max a b := by intro a b; unfold mx; split <;> omega
    rw [e1, e2, e3, e4, e4, List.drop_eq_getElem_cons hlt, List.foldl_cons]
    by_cases hb : l[i] = ok
    · rw [if_pos (by simp [hb]), ih k (i + 1) _ _ (by omega) (by omega) (by omega) (by omega) (by omega)]
      simp [Go.Proofs.Ytkifbcjmmkbilaa.Prb.rowG, hb]
    · rw [if_neg (by simp [hb]), ih k (i + 1) _ _ (by omega) (by omega) (by omega) (by omega) (by omega)]
      simp [Go.Proofs.Ytkifbcjmmkbilaa.Prb.rowG, hb]
theorem flotillalaw22_row.is (l : List Bool) (ok : Bool) (hl : l.length < 140737488355328) (k : Nat) (hk : l.length < k) : flotillalaw22_row.f k l ok = some (flotillalaw22_row.spec l ok).2 :=
  flotillalaw22_row.loop l ok hl l.length k 0 0 0 (by omega) (by omega) (Nat.zero_le _) rfl hk

end Go.Proofs.Ytkifbcjmmkbilaa.Print
