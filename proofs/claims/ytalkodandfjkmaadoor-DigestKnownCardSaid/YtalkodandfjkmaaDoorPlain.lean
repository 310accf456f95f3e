/- flotillakit's words on errors: Num, Place, Plain, At, of nothing, of a number's error, of one with a place. -/
import Derived.Test.YtalkodandfjkmaaDoorAs
import Derived.RegionCalls
import Derived.Deep.RegionWith
set_option linter.unusedVariables false
set_option linter.unusedSimpArgs false
namespace Go.Proofs.YtalkodandfjkmaaDoor.Pl
open Go.RowKit Go.Extern.Stop Go.Stop Go.Extern Go.Proofs.YtalkodandfjkmaaDoor.Err Go.Proofs.YtalkodandfjkmaaDoor.As
theorem noIsF (v : Value) (xT : TypeId) (w : World) : (Instr.typeAssert (.iface 50 v) xT 89 true).run Tryd.prog w = .ok (.tuple #[.nilIface, .bool false]) w := run_typeAssert_lacksB Tryd.underlying89 (by kernel_rfl) (by kernel_rfl) v xT w
theorem hasUnwrapF (v : Value) (xT : TypeId) (w : World) : (Instr.typeAssert (.iface 50 v) xT 84 true).run Tryd.prog w = .ok (.tuple #[.iface 50 v, .bool true]) w := run_typeAssert_hasB Tryd.underlying84 (by kernel_rfl) v xT w
theorem methodUnwrapF (v : Value) (w : World) : (Go.method 222 50 v "Unwrap").run Tryd.prog w = .ok (51, v) w := by kernel_rfl
theorem nilAheadF (v : Value) (w : World) : (nilAhead 222 50 v "Unwrap").run Tryd.prog w = .ok (some false) w := by kernel_rfl
set_option maxRecDepth 100000 in
set_option maxHeartbeats 1000000 in
/-- errors.Is of an error with a place, and a number: is the number the error's? -/
theorem is_fault (x y b : Int) (w : World) :
    Calls Tryd.prog 21 #[.iface 50 (.agg #[.int .i64 x, .int .i64 y]), .iface 46 (.int .i64 b)] w fun e w' => e = .returned (.bool (x == b)) ∧ Below w.heap.size w w' := by
  obtain ⟨i, hi, hcmp⟩ := Option.map_eq_some_iff.1 isComp
  have h8 := @run_callFunc_extern Tryd.prog 28 _ Extern.ReflectliteType.typeOf Tryd.func28 (by kernel_rfl) (by kernel_rfl) (by kernel_rfl) (by kernel_rfl)
  have h32 := @run_callFunc_extern Tryd.prog 57 _ (Extern.ReflectliteType.method fun t => do Extern.Rtype.noPackHeld nPH t; pure (.bool (← typeInfo t).comparable)) Tryd.func57 (by kernel_rfl) (by kernel_rfl) (by kernel_rfl) (by kernel_rfl)
  have tT := isTypeOf
  have cT := isComparable
  have mR := isMethodComparable
  have nE := noIsE
  have uE := noUnwrapE
  have vE := noUnwrapsE
  have nF := noIsF
  have uF := hasUnwrapF
  have mU := methodUnwrapF
  have nU := nilAheadF
  have hne := fun (vx vy : Value) (w : World) => run_eql_iface_types (P := Tryd.prog) 50 46 vx vy Tryd.underlying26 (by decide) w
  have heq := fun (w : World) => run_eql_iface_int (P := Tryd.prog) w x b Tryd.underlying26 Tryd.underlying46 hi hcmp
  by_cases hab : x = b
  · subst hab
    have hb : (x == x) = true := by simp
    go_enter Tryd.func21, Tryd.ntmps21
    go_wp2
    refine wp_loop_rounds 2 ?_
    rw [rounds_succ]
    go_wp2
    rw [rounds_succ]
    go_wp2
    go_ret
    exact ⟨by simp, (Below.refl _ _).alloc (Nat.le_refl _) _⟩
  · have hb : (x == b) = false := by simpa using hab
    rw [hb] at heq ⊢
    clear hab hb
    go_enter Tryd.func21, Tryd.ntmps21
    go_wp2
    refine wp_loop_rounds 2 ?_
    rw [rounds_succ]
    go_wp2
    rw [rounds_succ]
    go_wp2
    go_ret
    exact ⟨rfl, (Below.refl _ _).alloc (Nat.le_refl _) _⟩
theorem below_next {w W w2 : World} (h : Below w.heap.size w W) (k : Below W.heap.size W w2) : Below w.heap.size w w2 := h.trans (k.mono h.size)
set_option maxHeartbeats 2000000 in
theorem num_fault (c p : Int) (w : World) : Calls Tryd.prog 15 #[.iface 50 (.agg #[.int .i64 c, .int .i64 p])] w fun e w' => e = .returned (.int .i64 (numOf c)) ∧ Below w.heap.size w w' := by
  go_enter Tryd.func15, Tryd.ntmps15
  go_wp2
  go_loopw [3, 4] (fun f n wr => ∃ (k : Nat) (fv : Int), 1 ≤ k ∧ k ≤ 37 ∧ n = .int .i64 k ∧ f = .int .i64 fv ∧ Hid (fv = if 1 ≤ c ∧ c < k then c else 0) ∧ Below w.heap.size w wr) (fun _ n _ => 37 - (intOf n).toNat)
  case atStart => exact ⟨1, 0, by omega, by omega, rfl, rfl, (if_neg (by omega)).symm, Below.refl _ _⟩
  case round =>
    obtain ⟨k, fv, h1, h2, rfl, rfl, HF, hbw⟩ := hrel
    by_cases hk : k ≤ 36
    · by_cases hck : c = (k : Int)
      · have hb : (c == (k : Int)) = true := by simpa using hck
        obtain rfl : fv = 0 := by rw [HF.out, if_neg (by omega)]
        have HC := Lib.hid hck
        clear hck
        go_wp2_with (go_at_call 21; refine (is_fault c p k _).mono ?_; rintro e w' ⟨rfl, hb1⟩)
        go_roundw
        case rel => exact ⟨k + 1, k, by omega, by omega, by go_num, rfl, (by show _ = _; have := HC.out; rw [if_pos (by omega)]; exact this.symm), below_next hbw hb1⟩
        case measure => simp [intOf]; omega
      · have hb : (c == (k : Int)) = false := by simpa using hck
        go_wp2_with (go_at_call 21; refine (is_fault c p k _).mono ?_; rintro e w' ⟨rfl, hb1⟩)
        go_roundw
        case rel => exact ⟨k + 1, fv, by omega, by omega, by go_num, rfl, (by show _ = _; rw [HF.out]; congr 1; simp only [eq_iff_iff]; omega), below_next hbw hb1⟩
        case measure => simp [intOf]; omega
    · obtain rfl : k = 37 := by omega
      by_cases hc : 1 ≤ c ∧ c ≤ 36
      · obtain rfl : fv = c := by rw [HF.out, if_pos (by omega)]
        have hn : numOf fv = fv := if_pos hc
        have HN := Lib.hid hn
        have h0 : (fv == 0) = false := by simp; omega
        clear hn
        go_wp2_with (go_at_call 21; refine (is_fault fv p 0 _).mono ?_; rintro e w' ⟨rfl, hb1⟩)
        go_ret
        exact ⟨by rw [HN.out]; rfl, below_next hbw hb1⟩
      · obtain rfl : fv = 0 := by rw [HF.out, if_neg (by omega)]
        have HN := Lib.hid (show numOf c = -1 from if_neg hc)
        go_wp2_with (go_at_call 21; refine (is_fault c p 0 _).mono ?_; rintro e w' ⟨rfl, hb1⟩)
        go_ret
        exact ⟨by rw [HN.out]; rfl, hbw⟩
/-- An error: none, a number's, one with a place. -/
abbrev Er := Option (Int × Option Int)
def errV : Er → Value
  | none => .nilIface
  | some (c, none) => .iface 46 (.int .i64 c)
  | some (c, some p) => .iface 50 (.agg #[.int .i64 c, .int .i64 p])
def numE : Er → Int
  | none => 0
  | some (c, _) => numOf c
theorem num_calls (e0 : Er) (w : World) : Calls Tryd.prog 15 #[errV e0] w fun e w' => e = .returned (.int .i64 (numE e0)) ∧ Below w.heap.size w w' := by
  rcases e0 with _ | ⟨c, _ | p⟩
  · exact (num_nil w).mono fun e w' ⟨he, hw⟩ => ⟨he, hw ▸ Below.refl _ _⟩
  · exact (num_int c w).mono fun e w' ⟨he, hw⟩ => ⟨he, hw ▸ Below.refl _ _⟩
  · exact num_fault c p w
/-- flotillakit.Plain. -/
def plainE : Er → Int → Bool
  | none, n => decide (n = 0)
  | some (c, none), n => decide (numOf c = n)
  | some (_, some _), _ => false
set_option maxHeartbeats 2000000 in
theorem plain_nil (n : Int) (w : World) : Calls Tryd.prog 9 #[.nilIface, .int .i64 n] w fun e w' => e = .returned (.bool (decide (n = 0))) ∧ Below w.heap.size w w' := by
  by_cases h : n = 0
  · have h1 : ((0 : Int) == n) = true := by simp; omega
    have hd : decide (n = 0) = true := decide_eq_true h
    rw [hd]
    clear h hd
    go_enter Tryd.func9, Tryd.ntmps9
    go_wp2_with (go_at_call 15; refine (num_nil _).mono ?_; rintro e w' ⟨rfl, rfl⟩)
    go_ret
    exact ⟨rfl, (Below.refl _ _).alloc (Nat.le_refl _) _⟩
  · have h1 : ((0 : Int) == n) = false := by simp; omega
    have hd : decide (n = 0) = false := decide_eq_false h
    rw [hd]
    clear h hd
    go_enter Tryd.func9, Tryd.ntmps9
    go_wp2_with (go_at_call 15; refine (num_nil _).mono ?_; rintro e w' ⟨rfl, rfl⟩)
    go_ret
    exact ⟨rfl, (Below.refl _ _).alloc (Nat.le_refl _) _⟩
set_option maxHeartbeats 2000000 in
theorem plain_num (c n : Int) (w : World) (hg : Glob w) : Calls Tryd.prog 9 #[.iface 46 (.int .i64 c), .int .i64 n] w fun e w' => e = .returned (.bool (decide (numOf c = n))) ∧ Below w.heap.size w w' := by
  have hga : Glob (w.alloc (.cells #[.int .i64 0, .int .i64 0] 50)) := hg.below ((Below.refl _ _).alloc (Nat.le_refl _) _)
  have HG := Lib.hid hga
  clear hga hg
  obtain ⟨m, hm⟩ : ∃ m, numOf c = m := ⟨_, rfl⟩
  have HC := fun w => num_int c w
  rw [hm] at HC ⊢
  clear hm
  by_cases h : m = n
  · have h1 : (m == n) = true := by simp; omega
    have hd : decide (m = n) = true := decide_eq_true h
    rw [hd]
    clear h hd
    go_enter Tryd.func9, Tryd.ntmps9
    go_wp2_with fail
    refine (HC _).mono ?_
    rintro e w' ⟨rfl, rfl⟩
    go_wp2_with fail
    refine (as_num c _ _ HG.out).mono ?_
    rintro e w2 ⟨rfl, hb⟩
    go_wp2_with fail
    go_ret
    exact ⟨rfl, below_next ((Below.refl _ _).alloc (Nat.le_refl _) _) hb⟩
  · have h1 : (m == n) = false := by simp; omega
    have hd : decide (m = n) = false := decide_eq_false h
    rw [hd]
    clear h hd
    go_enter Tryd.func9, Tryd.ntmps9
    go_wp2_with fail
    refine (HC _).mono ?_
    rintro e w' ⟨rfl, rfl⟩
    go_wp2_with fail
    go_ret
    exact ⟨rfl, (Below.refl _ _).alloc (Nat.le_refl _) _⟩
/-- A target that the call itself has made, and set. -/
theorem below_two {w W : World} {tb : Nat} (h : Below w.heap.size w W) (ht : w.heap.size ≤ tb) (u v : Value) : Below w.heap.size w ((W.setCell ⟨tb, 0, none⟩ u).setCell ⟨tb, 1, none⟩ v) := (h.setCell ht _).setCell ht _
set_option maxHeartbeats 2000000 in
theorem plain_fault (c p n : Int) (w : World) (hg : Glob w) : Calls Tryd.prog 9 #[.iface 50 (.agg #[.int .i64 c, .int .i64 p]), .int .i64 n] w fun e w' => e = .returned (.bool false) ∧ Below w.heap.size w w' := by
  have hba := (Below.refl w.heap.size w).alloc (Nat.le_refl _) (.cells #[.int .i64 0, .int .i64 0] 50)
  have hga : Glob (w.alloc (.cells #[.int .i64 0, .int .i64 0] 50)) := hg.below hba
  have hh := heap_alloc_new w (.cells #[.int .i64 0, .int .i64 0] 50)
  have HG := Lib.hid hga
  have HH := Lib.hid hh
  have HBA := Lib.hid hba
  clear hga hg hh hba
  obtain ⟨m, hm⟩ : ∃ m, numOf c = m := ⟨_, rfl⟩
  have HC := fun w => num_fault c p w
  rw [hm] at HC
  clear hm
  by_cases h : m = n
  · have h1 : (m == n) = true := by simp; omega
    clear h
    go_enter Tryd.func9, Tryd.ntmps9
    go_wp2_with fail
    refine (HC _).mono ?_
    rintro e w1 ⟨rfl, hb1⟩
    have hlt : w.heap.size < (w.alloc (.cells #[.int .i64 0, .int .i64 0] 50)).heap.size := by rw [World.size_alloc]; omega
    have hh1 := (hb1.block w.heap.size hlt).trans HH.out
    have hg1 := HG.out.below hb1
    have hb2 := below_next HBA.out hb1
    have hc0 : w1.cell? ⟨w.heap.size, 0, none⟩ = some (.int .i64 0) := by rw [cell_of_row _ _ _ _ _ _ hh1]; rfl
    have hc1 : w1.cell? ⟨w.heap.size, 1, none⟩ = some (.int .i64 0) := by rw [cell_of_row _ _ _ _ _ _ hh1]; rfl
    have hf0 : w1.frozen? ⟨w.heap.size, 0, none⟩ = false := frozen_of_row _ _ _ _ _ hh1
    have hf1 : w1.frozen? ⟨w.heap.size, 1, none⟩ = false := frozen_of_row _ _ _ _ _ hh1
    have HG1 := Lib.hid hg1
    clear hh1 hg1 hlt
    go_wp2_with fail
    refine (as_fault c p _ _ _ _ HG1.out hc0 hc1 hf0 hf1).mono ?_
    rintro e w2 ⟨rfl, w3, hb3, rfl⟩
    have hb4 := below_two (below_next hb2 hb3) (Nat.le_refl _) (.int .i64 c) (.int .i64 p)
    clear hb3 hc0 hc1 hf0 hf1
    go_wp2_with fail
    go_ret
    exact ⟨rfl, hb4⟩
  · have h1 : (m == n) = false := by simp; omega
    clear h
    go_enter Tryd.func9, Tryd.ntmps9
    go_wp2_with fail
    refine (HC _).mono ?_
    rintro e w1 ⟨rfl, hb1⟩
    have hb2 := below_next HBA.out hb1
    go_wp2_with fail
    go_ret
    exact ⟨rfl, hb2⟩
theorem plain_calls (e0 : Er) (n : Int) (w : World) (hg : Glob w) : Calls Tryd.prog 9 #[errV e0, .int .i64 n] w fun e w' => e = .returned (.bool (plainE e0 n)) ∧ Below w.heap.size w w' := by
  rcases e0 with _ | ⟨c, _ | p⟩
  · exact plain_nil n w
  · exact plain_num c n w hg
  · exact plain_fault c p n w hg
end Go.Proofs.YtalkodandfjkmaaDoor.Pl
