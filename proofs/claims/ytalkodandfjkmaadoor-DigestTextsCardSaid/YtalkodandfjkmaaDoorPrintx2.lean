/- The functions below as plain Lean functions, each with the proof that the calls come to it; written by a program over the kit's print. -/
import Derived.Test.YtalkodandfjkmaaDoorPrintx0
import Derived.Test.YtalkodandfjkmaaDoorPrintx1
namespace Go.Proofs.YtalkodandfjkmaaDoor.Print
open Go.RowKit Go.Proofs.YtalkodandfjkmaaDoorW.PrintWords Go.Proofs.YtalkodandfjkmaaDoorW.PrintLast Go.Proofs.YtalkodandfjkmaaDoorW.PrintMore
attribute [local go_sem] max2_int min2_int max_two min_two max_three min_three max_four min_four   -- for this text's walks alone
set_option linter.unusedVariables false
set_option linter.unusedSimpArgs false

/-! ### flotillaref05_Text: function 8 -/
def flotillaref05_Text.l0 : Nat → Int → ByteArray → ByteArray → Int → Option (ByteArray)
  | 0, _, _, _, _ => none
  | k + 1, x0, x3, x4, x5 => if x5 < 13 then (if 0 ≤ (Go.bits .and .u64 x0 31) then (if (Go.bits .and .u64 x0 31) < (x3.size : Int) then ((some (([bt x3 (Go.bits .and .u64 x0 31)] : List Int) : List Int)).bind fun y102 => (if (strOfNums y102).size + x4.size ≤ 9223372036854775807 then (flotillaref05_Text.l0 k (x0 / 32) x3 ((strOfNums y102) ++ x4) (wrap64 (x5 + 1))) else (none))) else (none)) else (none)) else (some x4)
def flotillaref05_Text.f (k : Nat) (a0 : Int) : Option (ByteArray) := flotillaref05_Text.l0 k a0 (⟨#[97, 98, 99, 100, 101, 102, 103, 104, 105, 106, 107, 108, 109, 110, 111, 112, 113, 114, 115, 116, 117, 118, 119, 120, 121, 122, 50, 51, 52, 53, 54, 55]⟩ : ByteArray) (⟨#[]⟩ : ByteArray) 0
theorem flotillaref05_Text.mono_l : ∀ k, (∀ y0 y1 y2 y3, LeO (flotillaref05_Text.l0 k y0 y1 y2 y3) (flotillaref05_Text.l0 (k + 1) y0 y1 y2 y3))
  | 0 => fun _ _ _ _ r h => by simp [flotillaref05_Text.l0] at h
  | k + 1 => by
    have ih0 := flotillaref05_Text.mono_l k
    · intro y0 y1 y2 y3
      unfold flotillaref05_Text.l0
      repeat' first
      | (with_reducible exact ih0 _ _ _ _)
      | (with_reducible exact LeO.refl _)
      | (with_reducible exact LeO.none _)
      | (with_reducible refine LeO.ite ?_ ?_)
      | (with_reducible refine LeO.bind ?_ (fun _ => ?_))
      | exact ih0 _ _ _ _
      | exact LeO.none _
      | refine LeO.ite ?_ ?_
      | refine LeO.bind ?_ (fun _ => ?_)
theorem flotillaref05_Text.mono : ∀ a0 k, LeO (flotillaref05_Text.f k a0) (flotillaref05_Text.f (k + 1) a0) := by
  intro a0 k
  have ih0 := flotillaref05_Text.mono_l k
  unfold flotillaref05_Text.f
  repeat' first
      | (with_reducible exact ih0 _ _ _ _)
      | (with_reducible exact LeO.refl _)
      | (with_reducible exact LeO.none _)
      | (with_reducible refine LeO.ite ?_ ?_)
      | (with_reducible refine LeO.bind ?_ (fun _ => ?_))
      | exact ih0 _ _ _ _
      | exact LeO.none _
      | refine LeO.ite ?_ ?_
      | refine LeO.bind ?_ (fun _ => ?_)
set_option maxHeartbeats 8000000 in
set_option maxRecDepth 100000 in
theorem flotillaref05_Text.calls (k : Nat) (a0 : Int) (r : ByteArray) (w : World) (h : flotillaref05_Text.f k a0 = some r) :
    Calls Tryd.prog 8 #[.int .u64 a0] w fun e w' => e = .returned (.string r) ∧ Below w.heap.size w w' := by
  have HB := Aside0.mk (Below.refl w.heap.size w)
  have H : (flotillaref05_Text.l0 k a0 (⟨#[97, 98, 99, 100, 101, 102, 103, 104, 105, 106, 107, 108, 109, 110, 111, 112, 113, 114, 115, 116, 117, 118, 119, 120, 121, 122, 50, 51, 52, 53, 54, 55]⟩ : ByteArray) (⟨#[]⟩ : ByteArray) 0) = some r := h
  clear h
  have H' := Aside0.mk H
  clear H
  go_enter Tryd.func8, Tryd.ntmps8
  go_wp2
  go_loopg [0, 4, 5] k (fun kq v0 v4 v5 w' => ∃ (x0_1 : Int) (x4_1 : ByteArray) (x5_1 : Int), v0 = .int .u64 x0_1 ∧ v4 = .string x4_1 ∧ v5 = .int .i64 x5_1 ∧ Aside0 (flotillaref05_Text.l0 kq x0_1 (⟨#[97, 98, 99, 100, 101, 102, 103, 104, 105, 106, 107, 108, 109, 110, 111, 112, 113, 114, 115, 116, 117, 118, 119, 120, 121, 122, 50, 51, 52, 53, 54, 55]⟩ : ByteArray) x4_1 x5_1 = some r) ∧ Aside0 (kq ≤ k) ∧ Aside0 (Below w.heap.size w w'))
  case atStart => exact ⟨(a0), ((⟨#[]⟩ : ByteArray)), (0), (by first | rfl | (simp; done) | (simp [*]; done)), (by first | rfl | (simp; done) | (simp [*]; done)), (by first | rfl | (simp; done) | (simp [*]; done)), H', ⟨Nat.le_refl _⟩, ⟨by repeat (first | (with_reducible first | exact HB.out | apply below_alloc | apply pw_below_drewN | apply below_drew1) | exact HB.out)⟩⟩
  case round =>
    clear H'
    obtain ⟨x0_1, x4_1, x5_1, rfl, rfl, rfl, HA, HK1, HB⟩ := hrel
    cases gk with
    | zero => exact absurd HA.out (by simp [flotillaref05_Text.l0])
    | succ k1 =>
      have H := HA.out
      clear HA
      simp only [flotillaref05_Text.l0] at H
      by_cases c2 : x5_1 < 13
      · rw [if_pos c2] at H
        have c2b0 : decide (x5_1 < 13) = true := decide_eq_true c2
        clear c2
        by_cases c3 : 0 ≤ (Go.bits .and .u64 x0_1 31)
        · rw [if_pos c3] at H
          have c3b0 : decide (0 ≤ (Go.bits .and .u64 x0_1 31)) = true := decide_eq_true c3
          clear c3
          by_cases c4 : (Go.bits .and .u64 x0_1 31) < ((⟨#[97, 98, 99, 100, 101, 102, 103, 104, 105, 106, 107, 108, 109, 110, 111, 112, 113, 114, 115, 116, 117, 118, 119, 120, 121, 122, 50, 51, 52, 53, 54, 55]⟩ : ByteArray).size : Int)
          · rw [if_pos c4] at H
            have c4b0 : decide ((Go.bits .and .u64 x0_1 31) < ((⟨#[97, 98, 99, 100, 101, 102, 103, 104, 105, 106, 107, 108, 109, 110, 111, 112, 113, 114, 115, 116, 117, 118, 119, 120, 121, 122, 50, 51, 52, 53, 54, 55]⟩ : ByteArray).size : Int)) = true := decide_eq_true c4
            clear c4
            obtain ⟨y102, hy102⟩ : ∃ y_ : List Int, y_ = (([bt (⟨#[97, 98, 99, 100, 101, 102, 103, 104, 105, 106, 107, 108, 109, 110, 111, 112, 113, 114, 115, 116, 117, 118, 119, 120, 121, 122, 50, 51, 52, 53, 54, 55]⟩ : ByteArray) (Go.bits .and .u64 x0_1 31)] : List Int)) := ⟨_, rfl⟩
            replace H : (if (strOfNums y102).size + x4_1.size ≤ 9223372036854775807 then (flotillaref05_Text.l0 k1 (x0_1 / 32) (⟨#[97, 98, 99, 100, 101, 102, 103, 104, 105, 106, 107, 108, 109, 110, 111, 112, 113, 114, 115, 116, 117, 118, 119, 120, 121, 122, 50, 51, 52, 53, 54, 55]⟩ : ByteArray) ((strOfNums y102) ++ x4_1) (wrap64 (x5_1 + 1))) else (none)) = some r := by first | (rw [hy102]; with_reducible exact H) | (have H2_ := (Option.bind_some _ _).symm.trans H; rw [hy102]; with_reducible exact H2_) | (have H2_ := (Option.bind_some _ _).symm.trans H; with_reducible exact H2_) | with_reducible exact H | (rw [hy102]; exact H) | exact H
            have Ny102 := Aside0.mk hy102
            clear hy102
            by_cases c6 : (strOfNums y102).size + x4_1.size ≤ 9223372036854775807
            · rw [if_pos c6] at H
              have c6b0 := eq_true c6
              have c6b1 : decide ((strOfNums y102).size + x4_1.size ≤ 9223372036854775807) = true := decide_eq_true c6
              try have c6b2 : (9223372036854775807 < (strOfNums y102).size + x4_1.size) = False := eq_false (Nat.not_lt.2 c6)
              have H' := Aside0.mk H
              clear H
              have p5 : 0 ≤ ((Go.bits .and .u64 x0_1 31) : Int) := of_decide_eq_true (by first | (with_reducible assumption) | assumption)
              have q5 : (Go.bits .and .u64 x0_1 31) < (32 : Int) := of_decide_eq_true (by first | (with_reducible assumption) | assumption)
              have hx5 := bt_at (⟨#[97, 98, 99, 100, 101, 102, 103, 104, 105, 106, 107, 108, 109, 110, 111, 112, 113, 114, 115, 116, 117, 118, 119, 120, 121, 122, 50, 51, 52, 53, 54, 55]⟩ : ByteArray) (Go.bits .and .u64 x0_1 31)
              replace p5 := eq_true p5
              replace q5 := eq_true q5
              go_wp2_with (first | ((with_reducible refine gate_dst (N := 14) rfl ?_); refine Kd.R_lit (Kd.int .u8) _ 5 ?hg (N := 14) ?hd (xs := ([bt (⟨#[97, 98, 99, 100, 101, 102, 103, 104, 105, 106, 107, 108, 109, 110, 111, 112, 113, 114, 115, 116, 117, 118, 119, 120, 121, 122, 50, 51, 52, 53, 54, 55]⟩ : ByteArray) (Go.bits .and .u64 x0_1 31)] : List Int)) (inner := [.int .u8 (bt (⟨#[97, 98, 99, 100, 101, 102, 103, 104, 105, 106, 107, 108, 109, 110, 111, 112, 113, 114, 115, 116, 117, 118, 119, 120, 121, 122, 50, 51, 52, 53, 54, 55]⟩ : ByteArray) (Go.bits .and .u64 x0_1 31))]) (ok := fun _ => True) (okp := fun _ => True) ?hr ?hp (fun _ hk => hk) trivial (Below.refl _ _) (Nat.le_refl _) (by simp) ?_; (case hd => rfl); (case hg => rfl); (case hr => first | (go_simp; done) | (go_simp; rfl)); (case hp => exact (Reps.one (show Kd.M (Kd.int .u8) _ _ _ (bt (⟨#[97, 98, 99, 100, 101, 102, 103, 104, 105, 106, 107, 108, 109, 110, 111, 112, 113, 114, 115, 116, 117, 118, 119, 120, 121, 122, 50, 51, 52, 53, 54, 55]⟩ : ByteArray) (Go.bits .and .u64 x0_1 31)) [.int .u8 (bt (⟨#[97, 98, 99, 100, 101, 102, 103, 104, 105, 106, 107, 108, 109, 110, 111, 112, 113, 114, 115, 116, 117, 118, 119, 120, 121, 122, 50, 51, 52, 53, 54, 55]⟩ : ByteArray) (Go.bits .and .u64 x0_1 31))] from rfl) (Reps.none _ _))); intro v103 w7 ho8 hb hg_ hnew_; clear hg_ hnew_; (first | rw [← Ny102.out] at ho8 | (simp only [Int.reduceToNat] at ho8; rw [← Ny102.out] at ho8)); have n0_ := Aside0.mk (Kd.R_lower ho8 (below_size (by repeat (first | (with_reducible first | exact HB.out | apply below_alloc | apply pw_below_drewN | apply below_drew1) | exact HB.out)))); have n1_ := Aside0.mk (below_step (by repeat (first | (with_reducible first | exact HB.out | apply below_alloc | apply pw_below_drewN | apply below_drew1) | exact HB.out)) hb); clear HB; have HO104 := n0_; have HB := n1_; clear n0_ n1_; clear hb ho8; have hcv9 := own_string (P := Tryd.prog) Tryd.underlying34 Tryd.underlying5 Tryd.underlying9 (Kd.own_of_R HO104.out)))
              go_roundg k1
              case measure => have := HK1.out; omega
              case rel => exact ⟨(x0_1 / 32), ((strOfNums y102) ++ x4_1), (wrap64 (x5_1 + 1)), (by first | rfl | (simp; done) | (simp [*]; done)), (by first | rfl | (simp; done) | (simp [*]; done)), (by first | rfl | (simp; done) | (simp [*]; done)), H', ⟨by have := HK1.out; omega⟩, ⟨by repeat (first | (with_reducible first | exact HB.out | apply below_alloc | apply pw_below_drewN | apply below_drew1) | exact HB.out)⟩⟩
            · rw [if_neg c6] at H
              exact absurd H (by simp)
          · rw [if_neg c4] at H
            exact absurd H (by simp)
        · rw [if_neg c3] at H
          exact absurd H (by simp)
      · rw [if_neg c2] at H
        have c2b0 : decide (x5_1 < 13) = false := decide_eq_false c2
        clear c2
        obtain rfl := Option.some.inj H
        go_wp2
        go_ret
        exact ⟨by first | rfl | (simp [errW_none, errW_some] <;> rfl) | (simp [*, errW_none, errW_some] <;> rfl), by repeat (first | (with_reducible first | exact HB.out | apply below_alloc | apply pw_below_drewN | apply below_drew1) | exact HB.out)⟩
def flotillaref05_Text.T (h : Int) : Nat → List UInt8
  | 0 => []
  | k + 1 => Go.Proofs.YtalkodandfjkmaaDoor.Dig.letter (Go.Proofs.YtalkodandfjkmaaDoor.Dig.five h k) :: flotillaref05_Text.T h k
theorem flotillaref05_Text.T_len (h : Int) (k : Nat) : (flotillaref05_Text.T h k).length = k := by
  induction k with
  | zero => rfl
  | succ k ih => rw [flotillaref05_Text.T, List.length_cons, ih]
theorem flotillaref05_Text.one (h : Int) (k : Nat) : strOfNums [((Go.Proofs.YtalkodandfjkmaaDoor.Dig.letter (Go.Proofs.YtalkodandfjkmaaDoor.Dig.five h k)).toNat : Int)] ++ (⟨(flotillaref05_Text.T h k).toArray⟩ : ByteArray) = ⟨(flotillaref05_Text.T h (k + 1)).toArray⟩ := by
  apply ByteArray.ext
  rw [ByteArray.data_append]
  have e : (strOfNums [((Go.Proofs.YtalkodandfjkmaaDoor.Dig.letter (Go.Proofs.YtalkodandfjkmaaDoor.Dig.five h k)).toNat : Int)]).data = #[Go.Proofs.YtalkodandfjkmaaDoor.Dig.letter (Go.Proofs.YtalkodandfjkmaaDoor.Dig.five h k)] := by
    simp [strOfNums]
  rw [e, flotillaref05_Text.T]
  simp
theorem flotillaref05_Text.byte (v : Int) (h0 : 0 ≤ v) (h1 : v < 32) : bt Go.Proofs.YtalkodandfjkmaaDoor.Dig.lets v = ((Go.Proofs.YtalkodandfjkmaaDoor.Dig.letter v).toNat : Int) := by
  have hs : Go.Proofs.YtalkodandfjkmaaDoor.Dig.lets.size = 32 := rfl
  unfold bt
  rw [dif_pos (by omega), Go.Proofs.YtalkodandfjkmaaDoor.Dig.letter_at v (by omega)]
theorem flotillaref05_Text.loop (h : Int) : ∀ d i : Nat, i + d = 13 → Ev (fun k => flotillaref05_Text.l0 k (h / 2 ^ (5 * i)) Go.Proofs.YtalkodandfjkmaaDoor.Dig.lets (⟨(flotillaref05_Text.T h i).toArray⟩ : ByteArray) (i : Int)) (Go.Proofs.YtalkodandfjkmaaDoor.Dig.textB h) := by
  intro d
  induction d with
  | zero =>
    intro i hi
    obtain rfl : i = 13 := by omega
    refine Ev.step (fun _ => by simp only [flotillaref05_Text.l0]; rfl) ?_
    exact Ev.neg (by omega) (Ev.now _)
  | succ d ih =>
    intro i hi
    have hv := Go.Proofs.YtalkodandfjkmaaDoor.Dig.and31 (h / 2 ^ (5 * i))
    have hs : (Go.Proofs.YtalkodandfjkmaaDoor.Dig.lets.size : Int) = 32 := rfl
    refine Ev.step (fun _ => by simp only [flotillaref05_Text.l0]; rfl) ?_
    refine Ev.pos (by omega) (Ev.pos hv.1 (Ev.pos (by rw [hs]; exact hv.2) (Ev.val rfl ?_)))
    rw [flotillaref05_Text.byte _ hv.1 hv.2]
    have hl := flotillaref05_Text.T_len h i
    have e1 := flotillaref05_Text.one h i
    unfold Go.Proofs.YtalkodandfjkmaaDoor.Dig.five at e1
    refine Ev.pos ?_ ?_
    · have : (strOfNums [((Go.Proofs.YtalkodandfjkmaaDoor.Dig.letter (Go.bits .and .u64 (h / 2 ^ (5 * i)) 31)).toNat : Int)]).size = 1 := by simp [strOfNums, ByteArray.size]
      rw [this]
      have : (⟨(flotillaref05_Text.T h i).toArray⟩ : ByteArray).size = i := by simp [ByteArray.size, hl]
      rw [this]
      omega
    · rw [e1, wu_one i (by omega)]
      have e2 : h / 2 ^ (5 * i) / 32 = h / 2 ^ (5 * (i + 1)) := by
        rw [Nat.mul_add, Int.pow_add, Int.ediv_ediv_of_nonneg (by exact Int.pow_nonneg (by omega))]
        rfl
      rw [e2]
      exact ih (i + 1) (by omega)
theorem flotillaref05_Text.ev (h : Int) : Ev (fun k => flotillaref05_Text.f k h) (Go.Proofs.YtalkodandfjkmaaDoor.Dig.textB h) := by
  have := flotillaref05_Text.loop h 13 0 rfl
  simp only [Nat.mul_zero, Int.pow_zero, Int.ediv_one] at this
  exact this

/-! ### flotillakit_Plain: function 9 -/
-- GLOB
def flotillakit_Plain.f (a0 : Option Int) (a1 : Int) : Option Bool := some (Go.Proofs.YtalkodandfjkmaaDoor.Pl.plainE (a0.map fun c => (c, none)) a1)
theorem flotillakit_Plain.calls (a0 : Option Int) (a1 : Int) (r : Bool) (w : World) (hG : Go.Proofs.YtalkodandfjkmaaDoor.As.Glob w) (h : flotillakit_Plain.f a0 a1 = some r) :
    Calls Tryd.prog 9 #[errW a0, .int .i64 a1] w fun e w' => e = .returned (.bool r) ∧ Below w.heap.size w w' := by
  obtain rfl := Option.some.inj h
  have e1 : errW a0 = Go.Proofs.YtalkodandfjkmaaDoor.Pl.errV (a0.map fun c => (c, none)) := by cases a0 <;> rfl
  rw [e1]
  exact Go.Proofs.YtalkodandfjkmaaDoor.Pl.plain_calls _ a1 w hG

/-! ### flotillalaw05_DigestTexts: function 3 -/
def flotillalaw05_DigestTexts.f (k : Nat) (a0 : Int) (a1 : ByteArray) : Option (Bool) := (flotillaref05_Parse.f k a1).bind fun bt105 => ((digest_Parse.f k a1).bind fun bt107 => ((digest_Text.f a0).bind fun t109 => ((flotillaref05_Text.f k a0).bind fun t110 => (if t109.toList = t110.toList then ((flotillakit_Plain.f bt107.2 bt105.2).bind fun t111 => (if t111 = true then (some (bt107.1 == bt105.1)) else (none))) else (none)))))
theorem flotillalaw05_DigestTexts.mono : ∀ a0 a1 k, LeO (flotillalaw05_DigestTexts.f k a0 a1) (flotillalaw05_DigestTexts.f (k + 1) a0 a1) := by
  intro a0 a1 k
  unfold flotillalaw05_DigestTexts.f
  repeat' first
      | (with_reducible exact digest_Parse.mono _ _)
      | (with_reducible exact flotillaref05_Parse.mono _ _)
      | (with_reducible exact flotillaref05_Text.mono _ _)
      | (with_reducible exact LeO.refl _)
      | (with_reducible exact LeO.none _)
      | (with_reducible refine LeO.ite ?_ ?_)
      | (with_reducible refine LeO.bind ?_ (fun _ => ?_))
      | exact digest_Parse.mono _ _
      | exact flotillaref05_Parse.mono _ _
      | exact flotillaref05_Text.mono _ _
      | exact LeO.none _
      | refine LeO.ite ?_ ?_
      | refine LeO.bind ?_ (fun _ => ?_)
set_option maxHeartbeats 8000000 in
set_option maxRecDepth 100000 in
theorem flotillalaw05_DigestTexts.calls (k : Nat) (a0 : Int) (a1 : ByteArray) (r : Bool) (w : World) (hG : Go.Proofs.YtalkodandfjkmaaDoor.As.Glob w) (h : flotillalaw05_DigestTexts.f k a0 a1 = some r) :
    Calls Tryd.prog 3 #[.int .u64 a0, .string a1] w fun e w' => e = .returned (.bool r) ∧ Below w.heap.size w w' := by
  have HGl := Aside0.mk hG
  clear hG
  have HB := Aside0.mk (Below.refl w.heap.size w)
  have H : ((flotillaref05_Parse.f k a1).bind fun bt105 => ((digest_Parse.f k a1).bind fun bt107 => ((digest_Text.f a0).bind fun t109 => ((flotillaref05_Text.f k a0).bind fun t110 => (if t109.toList = t110.toList then ((flotillakit_Plain.f bt107.2 bt105.2).bind fun t111 => (if t111 = true then (some (bt107.1 == bt105.1)) else (none))) else (none)))))) = some r := h
  clear h
  replace H := Option.bind_eq_some_iff.mp H
  obtain ⟨⟨t105, t106⟩, A30, H⟩ := H
  replace H : ((digest_Parse.f k a1).bind fun bt107 => ((digest_Text.f a0).bind fun t109 => ((flotillaref05_Text.f k a0).bind fun t110 => (if t109.toList = t110.toList then ((flotillakit_Plain.f bt107.2 t106).bind fun t111 => (if t111 = true then (some (bt107.1 == t105)) else (none))) else (none))))) = some r := H
  have A3 := Aside0.mk A30
  clear A30
  replace H := Option.bind_eq_some_iff.mp H
  obtain ⟨⟨t107, t108⟩, A40, H⟩ := H
  replace H : ((digest_Text.f a0).bind fun t109 => ((flotillaref05_Text.f k a0).bind fun t110 => (if t109.toList = t110.toList then ((flotillakit_Plain.f t108 t106).bind fun t111 => (if t111 = true then (some (t107 == t105)) else (none))) else (none)))) = some r := H
  have A4 := Aside0.mk A40
  clear A40
  replace H := Option.bind_eq_some_iff.mp H
  obtain ⟨t109, A50, H⟩ := H
  replace H : ((flotillaref05_Text.f k a0).bind fun t110 => (if t109.toList = t110.toList then ((flotillakit_Plain.f t108 t106).bind fun t111 => (if t111 = true then (some (t107 == t105)) else (none))) else (none))) = some r := H
  have A5 := Aside0.mk A50
  clear A50
  replace H := Option.bind_eq_some_iff.mp H
  obtain ⟨t110, A60, H⟩ := H
  replace H : (if t109.toList = t110.toList then ((flotillakit_Plain.f t108 t106).bind fun t111 => (if t111 = true then (some (t107 == t105)) else (none))) else (none)) = some r := H
  have A6 := Aside0.mk A60
  clear A60
  by_cases c7 : t109.toList = t110.toList
  · rw [if_pos c7] at H
    have c7b0 : (t109.toList == t110.toList) = true := beq_iff_eq.mpr c7
    have c7b1 : (t109.toList != t110.toList) = false := bne_eq_false_iff_eq.mpr c7
    clear c7
    replace H := Option.bind_eq_some_iff.mp H
    obtain ⟨t111, A80, H⟩ := H
    replace H : (if t111 = true then (some (t107 == t105)) else (none)) = some r := H
    have A8 := Aside0.mk A80
    clear A80
    by_cases c9 : t111 = true
    · subst c9
      have H1 : (some (t107 == t105)) = some r := by rw [if_pos rfl] at H; exact H
      clear H
      have H := H1
      clear H1
      obtain rfl := Option.some.inj H
      go_enter Tryd.func3, Tryd.ntmps3
      go_wp2_with (first | ((with_reducible refine gate_callee (f := 5) rfl ?_); refine goesL_ (some 11) rfl rfl Tryd.func5 (by kernel_rfl) rfl #[.string a1] rfl (by (try simp only [List.map_toArray, List.map_cons, List.map_nil]); first | done | rfl | (simp only [List.length_drop, List.length_take]; rfl)) ?_; (with_reducible refine (flotillaref05_Parse.calls k a1 t105 t106 _ A3.out).mono ?_); rintro e w' ⟨rfl, ⟨nd, rfl⟩⟩; refine ⟨_, rfl, ?_⟩) | ((with_reducible refine gate_callee (f := 6) rfl ?_); refine goesL_ (some 16) rfl rfl Tryd.func6 (by kernel_rfl) rfl #[.string a1] rfl (by (try simp only [List.map_toArray, List.map_cons, List.map_nil]); first | done | rfl | (simp only [List.length_drop, List.length_take]; rfl)) ?_; (with_reducible refine (digest_Parse.calls k a1 t107 t108 _ A4.out).mono ?_); rintro e w' ⟨rfl, ⟨nd, rfl⟩⟩; refine ⟨_, rfl, ?_⟩; (try simp only [errW_none, errW_some])) | ((with_reducible refine gate_callee (f := 7) rfl ?_); refine goesL_ (some 20) rfl rfl Tryd.func7 (by kernel_rfl) rfl #[.int .u64 a0] rfl (by (try simp only [List.map_toArray, List.map_cons, List.map_nil]); first | done | rfl | (simp only [List.length_drop, List.length_take]; rfl)) ?_; (with_reducible refine (digest_Text.calls a0 t109 _ A5.out).mono ?_); rintro e w10 ⟨rfl, hb⟩; refine ⟨_, rfl, ?_⟩; have n0_ := Aside0.mk (below_step (by repeat (first | (with_reducible first | exact HB.out | apply below_alloc | apply pw_below_drewN | apply below_drew1) | exact HB.out)) hb); clear HB; have HB := n0_; clear n0_; (try clear hb); (try clear hb2); (try clear hk); (try clear hi)) | ((with_reducible refine gate_callee (f := 8) rfl ?_); refine goesL_ (some 22) rfl rfl Tryd.func8 (by kernel_rfl) rfl #[.int .u64 a0] rfl (by (try simp only [List.map_toArray, List.map_cons, List.map_nil]); first | done | rfl | (simp only [List.length_drop, List.length_take]; rfl)) ?_; (with_reducible refine (flotillaref05_Text.calls k a0 t110 _ A6.out).mono ?_); rintro e w11 ⟨rfl, hb⟩; refine ⟨_, rfl, ?_⟩; have n0_ := Aside0.mk (below_step (by repeat (first | (with_reducible first | exact HB.out | apply below_alloc | apply pw_below_drewN | apply below_drew1) | exact HB.out)) hb); clear HB; have HB := n0_; clear n0_; (try clear hb); (try clear hb2); (try clear hk); (try clear hi); have CA8 := fun (W : World) (hGW : Go.Proofs.YtalkodandfjkmaaDoor.As.Glob W) => flotillakit_Plain.calls t108 t106 true W hGW A8.out; try simp only [errW_none, errW_some] at CA8) | (go_at_call 9; (with_reducible refine (CA8 _ (Go.Proofs.YtalkodandfjkmaaDoor.As.Glob.below HGl.out (by repeat (first | (with_reducible first | exact HB.out | apply below_alloc | apply pw_below_drewN | apply below_drew1) | exact HB.out)))).mono ?_); rintro e w12 ⟨rfl, hb⟩; have n0_ := Aside0.mk (below_step (by repeat (first | (with_reducible first | exact HB.out | apply below_alloc | apply pw_below_drewN | apply below_drew1) | exact HB.out)) hb); clear HB; have HB := n0_; clear n0_; (try clear hb); (try clear hb2); (try clear hk); (try clear hi)))
      go_ret
      exact ⟨by first | rfl | (simp [errW_none, errW_some] <;> rfl) | (simp [*, errW_none, errW_some] <;> rfl), by repeat (first | (with_reducible first | exact HB.out | apply below_alloc | apply pw_below_drewN | apply below_drew1) | exact HB.out)⟩
    · replace c9 := Bool.eq_false_iff.mpr c9
      subst c9
      have H1 : (none) = some r := by rw [if_neg (show ¬ (false = true) by decide)] at H; exact H
      clear H
      have H := H1
      clear H1
      exact absurd H (by simp)
  · rw [if_neg c7] at H
    exact absurd H (by simp)

end Go.Proofs.YtalkodandfjkmaaDoor.Print
