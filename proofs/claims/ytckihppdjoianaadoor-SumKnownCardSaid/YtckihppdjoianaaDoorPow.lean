/- Package sum: what bytes 00 make of a register, as tables of 32 words; two sums joined. -/
import Derived.Test.YtckihppdjoianaaDoorProg
import Derived.WalkKit
import Derived.LoopTactic
import Derived.Tactics2
import Derived.Below
import Derived.Lib.Hide
import Derived.Outline
import Derived.Handy
import Derived.OwnWalk
import Derived.Laws.Rows
import Derived.Laws.CopyOwn
import Derived.Deep.WholeRow
import Derived.Deep.MidRow
import Derived.Deep.RegionHeld3
import Derived.Deep.DeepCutAuto
import Derived.Deep.DeepMust
import Derived.Test.YtckihppdjoianaaDoorWWords
import Derived.Test.YtckihppdjoianaaDoorCrc
import Derived.Test.YtckihppdjoianaaDoorMid
set_option linter.unusedVariables false
set_option linter.unusedSimpArgs false
namespace Go.Proofs.YtckihppdjoianaaDoor.Pow
open Go.RowKit Go.Proofs.YtckihppdjoianaaDoor.Crc Go.Proofs.YtckihppdjoianaaDoorW.PrintWords

/-- What m bits that fall out make of each bit of a register. -/
def pwL (m : Nat) : List Value := (List.range 32).map fun i => Value.int .u32 ((it m (2 ^ i) : Nat) : Int)
theorem pwL_len (m : Nat) : (pwL m).length = 32 := by simp [pwL]
theorem pwL_get (m i : Nat) (h : i < 32) : (pwL m)[i]? = some (.int .u32 ((it m (2 ^ i) : Nat) : Int)) := by
  simp [pwL, h]
theorem pwL_one (m : Nat) : (pwL m).all (·.oneCell') = true := by
  simp [pwL, Value.oneCell']
attribute [irreducible] pwL
theorem mod_succ (r k : Nat) : r % 2 ^ (k + 1) = r % 2 ^ k ^^^ (if r / 2 ^ k % 2 = 1 then 2 ^ k else 0) := by
  have h1 : r % 2 ^ (k + 1) = r % 2 ^ k + 2 ^ k * (r / 2 ^ k % 2) := by
    rw [Nat.pow_succ, Nat.mod_mul]
  have hlt : r % 2 ^ k < 2 ^ k := Nat.mod_lt _ (Nat.two_pow_pos k)
  rcases (by omega : r / 2 ^ k % 2 = 0 ∨ r / 2 ^ k % 2 = 1) with h | h
  · rw [h1, h, if_neg (by decide), Nat.mul_zero, Nat.add_zero, Nat.xor_zero]
  · rw [h1, h, if_pos rfl, Nat.mul_one]
    have h2 := Nat.two_pow_add_eq_or_of_lt (i := k) hlt 1
    rw [Nat.mul_one] at h2
    rw [Nat.add_comm, h2]
    apply Nat.eq_of_testBit_eq
    intro i
    rw [Nat.testBit_or, Nat.testBit_xor, Nat.testBit_two_pow]
    by_cases hi : k = i
    · subst hi
      rw [Nat.testBit_lt_two_pow hlt]
      simp
    · simp [hi]
theorem it_mod_succ (m r k : Nat) : it m (r % 2 ^ (k + 1)) = it m (r % 2 ^ k) ^^^ (if r / 2 ^ k % 2 = 1 then it m (2 ^ k) else 0) := by
  rw [mod_succ, it_xor]
  split
  · rfl
  · rw [it_zero]
/-- One round of 'of'. -/
theorem of_round (m y x k : Nat) (hy : y < 2 ^ 32) (hx : x < 2 ^ 32) (hk : k < 32) :
    Go.bits .xor .u32 (y : Int) (Go.bits .and .u32 ((it m (2 ^ k) : Nat) : Int) ((-(Go.bits .and .u32 (x : Int) 1)) % 4294967296)) = ((y ^^^ (if x % 2 = 1 then it m (2 ^ k) else 0) : Nat) : Int) := by
  have h2 : (2 : Nat) ^ k < 2 ^ 32 := Nat.pow_lt_pow_right (by decide) hk
  have hp := it_lt m h2
  rw [mask _ hp x hx]
  exact bits_xor hy (by split; exact hp; decide)
set_option maxRecDepth 100000 in
theorem of_calls (m r : Nat) (hr : r < 4294967296) (w : World) :
    Calls Tryd.prog 15 #[.agg (pwL m).toArray, .int .u32 r] w fun e w' => e = .returned (.int .u32 ((it m r : Nat) : Int)) ∧ Below w.heap.size w w' := by
  go_enter Tryd.func15, Tryd.ntmps15
  go_wp2
  go_loop [1, 5, 6] (fun a b c => ∃ (k x y : Nat), k ≤ 32 ∧ c = .int .i64 k ∧ a = .int .u32 x ∧ b = .int .u32 y ∧ x < 4294967296 ∧ Hid (x = r / 2 ^ k ∧ y = it m (r % 2 ^ k))) (fun _ _ c => 32 - (intOf c).toNat)
  case atStart => exact ⟨0, r, 0, by omega, rfl, rfl, rfl, by omega, ⟨by simp, by simp [Nat.mod_one, it_zero]⟩⟩
  case round =>
    obtain ⟨k, x, y, hk, rfl, rfl, rfl, hx, HH⟩ := hrel
    by_cases h0 : x = 0
    · have hy : y = it m r := by
        have h1 := HH.out.1
        have h2 := HH.out.2
        have h3 : r % 2 ^ k = r := Nat.mod_eq_of_lt (by
          have := Nat.div_eq_zero_iff.1 (h1.symm.trans h0)
          rcases this with h | h
          · exact absurd h (Nat.ne_of_gt (Nat.two_pow_pos k))
          · exact h)
        rw [h2, h3]
      have HY := Lib.hid hy
      have hb : ((x : Int) == 0) = true := by simp; omega
      have hb2 : ((x : Int) != 0) = false := by simp; omega
      clear hy h0
      go_wp2
      go_ret
      exact ⟨by rw [HY.out]; rfl, (Below.refl _ _).alloc (Nat.le_refl _) _⟩
    · have hk2 : k < 32 := by
        rcases Nat.lt_or_ge k 32 with h | h
        · exact h
        · exfalso
          apply h0
          rw [HH.out.1]
          exact Nat.div_eq_of_lt (Nat.lt_of_lt_of_le hr (by exact Nat.pow_le_pow_right (n := 2) (by decide) h))
      have hb : ((x : Int) == 0) = false := by simp; omega
      have hb2 : ((x : Int) != 0) = true := by simp; omega
      have hcell : (w.alloc (.cells (pwL m).toArray 43)).cell? ⟨w.heap.size, k, none⟩ = some (.int .u32 ((it m (2 ^ k) : Nat) : Int)) := by
        rw [cell_of_row _ _ _ _ _ _ (heap_alloc_new w _)]
        simpa using pwL_get m k hk2
      have hget : (pwL m)[k]? = some (.int .u32 ((it m (2 ^ k) : Nat) : Int)) := pwL_get m k hk2
      have hy32 : y < 2 ^ 32 := by
        rw [HH.out.2]
        exact it_lt m (Nat.lt_of_le_of_lt (Nat.mod_le _ _) hr)
      have HR := Lib.hid (of_round m y x k hy32 hx hk2)
      have HN : Hid (x / 2 = r / 2 ^ (k + 1) ∧ (y ^^^ (if x % 2 = 1 then it m (2 ^ k) else 0)) = it m (r % 2 ^ (k + 1))) := by
        obtain ⟨e1, e2⟩ := HH.out
        refine ⟨?_, ?_⟩
        · rw [e1, Nat.pow_succ, Nat.div_div_eq_div_mul]
        · rw [it_mod_succ, ← e1, ← e2]
      clear hy32 HH
      obtain ⟨z, hz⟩ : ∃ z : Nat, it m (2 ^ k) = z := ⟨_, rfl⟩
      rw [hz] at hcell hget HR HN
      go_wp2
      refine ⟨⟨k + 1, x / 2, _, by omega, by go_num, by go_num, by rw [HR.out], by omega, HN⟩, by simp [intOf]; omega⟩

theorem size47 : (Tryd.prog.info? 43).map (·.size) = some 32 := by kernel_rfl
theorem size46 : (Tryd.prog.info? 42).map (·.size) = some 32 := by kernel_rfl
/-- What 'twice' has behind its first k rounds. -/
def half (m k : Nat) : List Value := (List.range 32).map fun i => Value.int .u32 (if i < k then ((it (m + m) (2 ^ i) : Nat) : Int) else 0)
theorem half_len (m k : Nat) : (half m k).length = 32 := by simp [half]
theorem half_get (m k i : Nat) (h : i < 32) : (half m k)[i]? = some (.int .u32 (if i < k then ((it (m + m) (2 ^ i) : Nat) : Int) else 0)) := by simp [half, h]
theorem half_zero (m : Nat) : half m 0 = List.replicate 32 (Value.int .u32 0) := by simp [half, List.map_const']
theorem half_all (m : Nat) : half m 32 = pwL (m + m) := by
  apply List.ext_getElem?
  intro i
  rcases Nat.lt_or_ge i 32 with h | h
  · rw [half_get m 32 i h, pwL_get (m + m) i h, if_pos h]
  · rw [List.getElem?_eq_none (by rw [half_len]; exact h), List.getElem?_eq_none (by rw [pwL_len]; exact h)]
theorem half_set (m k : Nat) (h : k < 32) : (half m k).set k (.int .u32 ((it (m + m) (2 ^ k) : Nat) : Int)) = half m (k + 1) := by
  apply List.ext_getElem?
  intro i
  rcases Nat.lt_or_ge i 32 with hi | hi
  · rw [List.getElem?_set, half_get m (k + 1) i hi, half_len]
    by_cases e : k = i
    · subst e; rw [if_pos rfl, if_pos h, if_pos (by omega)]
    · rw [if_neg e, half_get m k i hi]
      by_cases e2 : i < k
      · rw [if_pos e2, if_pos (by omega)]
      · rw [if_neg e2, if_neg (by omega)]
  · rw [List.getElem?_eq_none (by rw [List.length_set, half_len]; exact hi), List.getElem?_eq_none (by rw [half_len]; exact hi)]
attribute [irreducible] half
theorem range_of {W : World} {B : Nat} {cs : List Value} {t : TypeId} {fr : Nat × Nat} (h : W.heap[B]? = some (.cells cs.toArray t fr)) : W.rangeAt B 0 cs := by
  intro j v hv
  rw [Nat.zero_add, cell_of_row W B j _ _ _ h]
  simpa using hv
theorem cell_apart (W : World) (b b' i j : Nat) (v : Value) (h : b ≠ b') : (W.setCell ⟨b', i, none⟩ v).cell? ⟨b, j, none⟩ = W.cell? ⟨b, j, none⟩ := by
  simp only [World.cell?]
  rw [Go.heap_setCell_other W ⟨b', i, none⟩ b v h]
theorem range_apart {W : World} {b b' o i : Nat} {v : Value} {cs : List Value} (hr : W.rangeAt b o cs) (h : b ≠ b') : (W.setCell ⟨b', i, none⟩ v).rangeAt b o cs :=
  fun j u hj => (cell_apart W b b' i _ v h).trans (hr j u hj)
theorem range_below {W W1 : World} {b o : Nat} {cs : List Value} (hr : W.rangeAt b o cs) (hb : Below W.heap.size W W1) (h : b < W.heap.size) : W1.rangeAt b o cs :=
  fun j u hj => (hb.cell (p := ⟨b, o + j, none⟩) h).trans (hr j u hj)
theorem heap3 (w : World) (A B C : Obj) : (((w.alloc A).alloc B).alloc C).heap[w.heap.size]? = some A ∧ (((w.alloc A).alloc B).alloc C).heap[w.heap.size + 1]? = some B ∧ (((w.alloc A).alloc B).alloc C).heap[w.heap.size + 1 + 1]? = some C ∧ Below w.heap.size w (((w.alloc A).alloc B).alloc C) := by
  refine ⟨?_, ?_, ?_, ((((Below.refl _ _).alloc (Nat.le_refl _) _).alloc (by simp) _).alloc (by simp; omega) _)⟩
  · rw [heap_alloc_old _ _ (by simp; omega), heap_alloc_old _ _ (by simp), heap_alloc_new]
  · have h := heap_alloc_new (w.alloc A) B
    rw [World.size_alloc] at h
    rw [heap_alloc_old _ _ (by simp), h]
  · have h := heap_alloc_new ((w.alloc A).alloc B) C
    rw [World.size_alloc, World.size_alloc] at h
    exact h
set_option maxRecDepth 100000 in
set_option maxHeartbeats 1000000 in
theorem twice_calls (m : Nat) (w : World) :
    Calls Tryd.prog 27 #[.agg (pwL m).toArray] w fun e w' => e = .returned (.agg (pwL (m + m)).toArray) ∧ Below w.heap.size w w' := by
  have hz0 : half m 0 = List.replicate 32 (Value.int .u32 0) := half_zero m
  have h47 := size47
  have hu47 := Tryd.underlying43
  have hlen := pwL_len m
  go_enter Tryd.func27, Tryd.ntmps27
  go_wp2_with fail
  go_loopw [5] (fun i wr => ∃ k : Nat, k ≤ 32 ∧ i = .int .i64 k ∧ wr.heap[w.heap.size]? = some (.cells (pwL m).toArray 43 (0, 0)) ∧ wr.heap[w.heap.size + 1 + 1]? = some (.cells (half m k).toArray 43 (0, 0)) ∧
      (∃ cs, cs.size = 32 ∧ wr.heap[w.heap.size + 1]? = some (.cells cs 43 (0, 0))) ∧ Below w.heap.size w wr) (fun i _ => 32 - (intOf i).toNat)
  case atStart =>
    obtain ⟨e1, e2, e3, e4⟩ := heap3 w (.cells (pwL m).toArray 43) (.cells (List.replicate 32 (Value.int .u32 0)).toArray 43) (.cells (half m 0).toArray 43)
    rw [hz0] at e1 e2 e3 e4
    refine ⟨0, by omega, rfl, e1, ?_, ⟨_, ?_, e2⟩, e4⟩
    · rw [hz0]; exact e3
    · rfl
  case round =>
    obtain ⟨k, hk, rfl, hp, hq, ⟨zs, hzs, hres⟩, hb⟩ := hrel
    by_cases hlt : k < 32
    · have hr1 := range_of hp
      obtain ⟨z, hz⟩ : ∃ z : Nat, it m (2 ^ k) = z := ⟨_, rfl⟩
      have hz32 : z < 4294967296 := by rw [← hz]; exact it_lt m (Nat.pow_lt_pow_right (by decide) hlt)
      have hc1 : wr.cell? ⟨w.heap.size, k, none⟩ = some (.int .u32 z) := by
        rw [cell_of_row _ _ _ _ _ _ hp, ← hz]
        simpa using pwL_get m k hlt
      have hk0 : (0 : Int) ≤ (k : Int) := by omega
      have hk1 : (k : Int) < 32 := by omega
      have HZ := Lib.hid (show it m z = it (m + m) (2 ^ k) by rw [← hz, ← it_add])
      have hlp : w.heap.size < wr.heap.size := (Array.getElem?_eq_some_iff.1 hp).1
      have hlq : w.heap.size + 1 + 1 < wr.heap.size := (Array.getElem?_eq_some_iff.1 hq).1
      have hlr : w.heap.size + 1 < wr.heap.size := by omega
      have hqc : wr.cell? ⟨w.heap.size + 1 + 1, k, none⟩ = some (.int .u32 0) := by
        rw [cell_of_row _ _ _ _ _ _ hq]
        have := half_get m k k hlt
        rw [if_neg (by omega)] at this
        simpa using this
      have hqf : wr.frozen? ⟨w.heap.size + 1 + 1, k, none⟩ = false := frozen_of_row _ _ _ _ _ hq
      have HP := Lib.hid hp
      have HQ := Lib.hid hq
      have HS := Lib.hid hres
      clear hz hp hq hres hz0
      go_wp2_with fail
      go_region_held3 (fun w' => w'.rangeAt w.heap.size 0 (pwL m) ∧ w'.cell? ⟨w.heap.size, k, none⟩ = some (.int .u32 z))
        (first | exact ⟨hr1, hc1⟩ | exact ⟨hr2, hc2⟩ | exact ⟨range_apart hr2 (by omega), (cell_apart _ _ _ _ _ _ (by omega)).trans hc2⟩ | go_keep)
        ((go_at_call 15; refine (of_calls m z hz32 _).mono ?_; rintro e w1 ⟨rfl, hb0⟩
          have hb1 : Below wr.heap.size wr w1 := (Below.refl wr.heap.size wr).drew.trans hb0
          have hr2 : w1.rangeAt w.heap.size 0 (pwL m) := range_below hr1 hb1 hlp
          have hc2 : w1.cell? ⟨w.heap.size, k, none⟩ = some (.int .u32 z) := (hb1.cell (p := ⟨w.heap.size, k, none⟩) hlp).trans hc1
          have hqc2 : w1.cell? ⟨w.heap.size + 1 + 1, k, none⟩ = some (.int .u32 0) := (hb1.cell (p := ⟨w.heap.size + 1 + 1, k, none⟩) hlq).trans hqc
          have hqf2 : w1.frozen? ⟨w.heap.size + 1 + 1, k, none⟩ = false := (hb1.frozen (p := ⟨w.heap.size + 1 + 1, k, none⟩) hlq).trans hqf))
      have hq1 : w1.heap[w.heap.size + 1 + 1]? = some (.cells (half m k).toArray 43 (0, 0)) := (hb1.block _ hlq).trans HQ.out
      have hq2 : (w1.setCell ⟨w.heap.size + 1 + 1, k, none⟩ (.int .u32 ↑(it m z))).heap[w.heap.size + 1 + 1]? = some (.cells (half m (k + 1)).toArray 43 (0, 0)) := by
        rw [heap_setCell_same _ _ _ _ _ _ hq1, HZ.out]
        have := half_set m k hlt
        simp [← this]
      have hp2 : (w1.setCell ⟨w.heap.size + 1 + 1, k, none⟩ (.int .u32 ↑(it m z))).heap[w.heap.size]? = some (.cells (pwL m).toArray 43 (0, 0)) :=
        (heap_setCell_other _ _ _ _ (by simp; omega)).trans ((hb1.block _ hlp).trans HP.out)
      have hs2 : (w1.setCell ⟨w.heap.size + 1 + 1, k, none⟩ (.int .u32 ↑(it m z))).heap[w.heap.size + 1]? = some (.cells zs 43 (0, 0)) :=
        (heap_setCell_other _ _ _ _ (by simp)).trans ((hb1.block _ hlr).trans HS.out)
      have hbb : Below w.heap.size w (w1.setCell ⟨w.heap.size + 1 + 1, k, none⟩ (.int .u32 ↑(it m z))) := (below_step hb hb1).setCell (by simp; omega) _
      clear HP HQ HS hq1 hr1 hc1 hqc hqf hr2 hc2 hqc2 hqf2 hb1 hb0 HZ
      obtain ⟨w2, hw2⟩ : ∃ w2, w1.setCell ⟨w.heap.size + 1 + 1, k, none⟩ (.int .u32 ↑(it m z)) = w2 := ⟨_, rfl⟩
      rw [hw2] at hq2 hp2 hs2 hbb ⊢
      clear hw2
      go_wp2
      go_roundw
      case rel => exact ⟨k + 1, by omega, by go_num, hp2, hq2, ⟨zs, hzs, hs2⟩, hbb⟩
      case measure => simp [intOf]; omega
    · obtain rfl : k = 32 := by omega
      rw [half_all] at hq
      have hi2 : (Tryd.prog.info? 43).map (·.size) = some (pwL (m + m)).toArray.size := by
        rw [size47]; simp [pwL_len]
      have h1c : (pwL (m + m)).toArray.all (·.oneCell') = true := by simpa using pwL_one (m + m)
      have hzl : zs.size = (pwL (m + m)).toArray.size := by simp [pwL_len, hzs]
      have HF := setRow_heap wr (w.heap.size + 1) zs (pwL (m + m)).toArray _ _ hres
      have HB := below_setRow hb (show w.heap.size ≤ w.heap.size + 1 by omega) (pwL (m + m)).toArray
      have HI := Lib.hid hi2
      have HZ := Lib.hid hzl
      have H1 := Lib.hid h1c
      have HFh := Lib.hid HF
      have HQ := Lib.hid hq
      have HR := Lib.hid hres
      clear hi2 hzl h1c HF hq hres h47 hlen hz0 hzs hp hk hlt
      go_wp2_with (first | (refine wpList_load_row rfl 43 (.tmp 3) rfl (w.heap.size + 1 + 1) rfl _ _ _ _ HQ.out hu47 rfl HI.out ?_) | (refine wpList_store_row rfl 43 (.tmp 2) (.tmp 16) rfl (w.heap.size + 1) (pwL (m + m)).toArray rfl rfl _ zs HR.out HI.out HZ.out H1.out ?_))
      exact bodyPost_ret (v := .agg (pwL (m + m)).toArray) (results_cell_row rfl _ _ _ _ _ _ _ rfl HFh.out hu47 rfl HI.out) rfl ⟨rfl, HB⟩
set_option maxRecDepth 100000 in
theorem byteful_calls (r : Nat) (hr : r < 4294967296) (w : World) :
    Calls Tryd.prog 26 #[.int .u32 r] w fun e w' => e = .returned (.int .u32 ((it 8 r : Nat) : Int)) ∧ w' = w := by
  go_enter Tryd.func26, Tryd.ntmps26
  go_wp2
  go_loop [0, 3] (fun a b => ∃ (k x : Nat), k ≤ 8 ∧ b = .int .i64 k ∧ a = .int .u32 x ∧ x < 4294967296 ∧ Hid (it (8 - k) x = it 8 r)) (fun _ b => 8 - (intOf b).toNat)
  case atStart => exact ⟨0, r, by omega, rfl, rfl, hr, Lib.hid rfl⟩
  case round =>
    obtain ⟨k, x, hk, rfl, rfl, hx, HH⟩ := hrel
    by_cases hlt : k < 8
    · have HS := Lib.hid (step_go (r := x) hx)
      have HX : Crc.step x < 4294967296 := step_lt hx
      have HN : Hid (it (8 - (k + 1)) (Crc.step x) = it 8 r) := by
        have := HH.out
        rw [show 8 - k = (8 - (k + 1)) + 1 by omega] at this
        exact Lib.hid this
      clear HH
      go_wp2
      go_round
      case rel => exact ⟨k + 1, Crc.step x, by omega, by go_num, by rw [HS.out], HX, HN⟩
      case measure => simp [intOf]; omega
    · obtain rfl : k = 8 := by omega
      have HY := Lib.hid (show x = it 8 r from HH.out)
      clear HH
      go_wp2
      go_ret
      exact ⟨by rw [HY.out]; rfl, rfl⟩
/-- What 'powers' has of the table behind its first k rounds. -/
def fill8 (k : Nat) : List Value := (List.range 32).map fun i => Value.int .u32 (if i < k then ((it 8 (2 ^ i) : Nat) : Int) else 0)
theorem fill8_len (k : Nat) : (fill8 k).length = 32 := by simp [fill8]
theorem fill8_get (k i : Nat) (h : i < 32) : (fill8 k)[i]? = some (.int .u32 (if i < k then ((it 8 (2 ^ i) : Nat) : Int) else 0)) := by simp [fill8, h]
theorem fill8_zero : fill8 0 = List.replicate 32 (Value.int .u32 0) := by simp [fill8, List.map_const']
theorem fill8_all : fill8 32 = pwL 8 := by
  apply List.ext_getElem?
  intro i
  rcases Nat.lt_or_ge i 32 with h | h
  · rw [fill8_get 32 i h, pwL_get 8 i h, if_pos h]
  · rw [List.getElem?_eq_none (by rw [fill8_len]; exact h), List.getElem?_eq_none (by rw [pwL_len]; exact h)]
theorem fill8_set (k : Nat) (h : k < 32) : (fill8 k).set k (.int .u32 ((it 8 (2 ^ k) : Nat) : Int)) = fill8 (k + 1) := by
  apply List.ext_getElem?
  intro i
  rcases Nat.lt_or_ge i 32 with hi | hi
  · rw [List.getElem?_set, fill8_get (k + 1) i hi, fill8_len]
    by_cases e : k = i
    · subst e; rw [if_pos rfl, if_pos h, if_pos (by omega)]
    · rw [if_neg e, fill8_get k i hi]
      by_cases e2 : i < k
      · rw [if_pos e2, if_pos (by omega)]
      · rw [if_neg e2, if_neg (by omega)]
  · rw [List.getElem?_eq_none (by rw [List.length_set, fill8_len]; exact hi), List.getElem?_eq_none (by rw [fill8_len]; exact hi)]
attribute [irreducible] fill8
/-- A table as an element of a row. -/
def vec : Kd Nat where
  sz := 32
  E := []
  K := fun _ m cs => cs = pwL m
  M := fun _ _ _ m cs => cs = pwL m
  K_len := fun h => by rw [h, pwL_len]
  K_one := fun h u hu => by
    rw [h] at hu
    have := pwL_one
    simp only [List.all_eq_true] at this
    exact this _ u hu
  K_below := fun _ h => h
  K_of_M := fun h => h
  M_mono := fun _ h => h
  M_bound := fun h => h
  M_move := fun _ h => h
  M_lower := fun _ h => h
/-- The tables of 1, 2, 4 and so on bytes: so many of them. -/
def tabs (j : Nat) : List Nat := (List.range j).map fun i => 8 * 2 ^ i
theorem tabs_len (j : Nat) : (tabs j).length = j := by simp [tabs]
theorem tabs_succ (j : Nat) : tabs (j + 1) = tabs j ++ [8 * 2 ^ j] := by simp [tabs, List.range_succ]
theorem tabs_get (j i : Nat) (h : i < j) : (tabs j)[i]? = some (8 * 2 ^ i) := by simp [tabs, h]
attribute [irreducible] tabs
theorem info46 : (Tryd.prog.info? 42).map (fun i => (i.zero, i.size, i.bytes)) = some (some (.agg (List.replicate 32 (Value.int .u32 0)).toArray), 32, 128) := by kernel_rfl
abbrev RV : Nat → List Value → Prop := fun m cs => cs = pwL m
theorem pow_int {k : Nat} (h : k < 32) : ((2 : Int) ^ k % 4294967296) = ((2 ^ k : Nat) : Int) := by
  have h1 : (2 : Nat) ^ k < 4294967296 := Nat.pow_lt_pow_right (n := 32) (by decide) h
  have e : ((2 : Int) ^ k) = ((2 ^ k : Nat) : Int) := by simp only [Int.natCast_pow]; rfl
  rw [e]
  exact Int.emod_eq_of_lt (Int.natCast_nonneg _) (Int.ofNat_lt.2 h1)
set_option maxRecDepth 100000 in
set_option maxHeartbeats 1000000 in
theorem powers_calls (n : Nat) (hn : n < 9223372036854775808) (w : World) :
    Calls Tryd.prog 14 #[.int .i64 n] w fun e w' => ∃ (A : Option Addr) (c j : Nat), e = .returned (.slice A j c) ∧ j ≤ c ∧ ReadsRow RV 32 w' A j (tabs j) ∧ (0 < j → ∃ g, A = some ⟨g, 0, none⟩) ∧ n < 2 ^ j ∧ j ≤ 63 ∧ Below w.heap.size w w' := by
  have hz0 := fill8_zero
  go_enter Tryd.func14, Tryd.ntmps14
  go_wp2_with fail
  go_loopw [6] (fun i wr => ∃ k : Nat, k ≤ 32 ∧ i = .int .i64 k ∧ wr.heap[w.heap.size]? = some (.cells (fill8 k).toArray 43 (0, 0)) ∧ Below w.heap.size w wr) (fun i _ => 32 - (intOf i).toNat)
  case atStart =>
    refine ⟨0, by omega, rfl, ?_, ?_⟩
    · rw [hz0]; exact heap_alloc_new w _
    · exact (Below.refl _ _).alloc (Nat.le_refl _) _
  case round =>
    obtain ⟨k, hk, rfl, hp, hb⟩ := hrel
    clear hz0
    by_cases hlt : k < 32
    · have hlp : w.heap.size < wr.heap.size := (Array.getElem?_eq_some_iff.1 hp).1
      have hk0 : (0 : Int) ≤ (k : Int) := by omega
      have hk1 : (k : Int) < 32 := by omega
      have hd : decide ((k : Int) < 32) = true := by simp; omega
      have h2 : 2 ^ k < 4294967296 := Nat.pow_lt_pow_right (n := 32) (by decide) hlt
      have hcell : wr.cell? ⟨w.heap.size, k, none⟩ = some (.int .u32 0) := by
        rw [cell_of_row _ _ _ _ _ _ hp]
        have := fill8_get k k hlt
        rw [if_neg (by omega)] at this
        simpa using this
      have hfr : wr.frozen? ⟨w.heap.size, k, none⟩ = false := frozen_of_row _ _ _ _ _ hp
      have hp2 : (wr.setCell ⟨w.heap.size, k, none⟩ (.int .u32 ((it 8 (2 ^ k) : Nat) : Int))).heap[w.heap.size]? = some (.cells (fill8 (k + 1)).toArray 43 (0, 0)) := by
        rw [heap_setCell_same _ _ _ _ _ _ hp]
        have := fill8_set k hlt
        simp [← this]
      have hbb : Below w.heap.size w (wr.setCell ⟨w.heap.size, k, none⟩ (.int .u32 ((it 8 (2 ^ k) : Nat) : Int))) := hb.setCell (Nat.le_refl _) _
      have HP := Lib.hid hp2
      clear hp hp2
      go_wp2_with fail
      rw [pow_int hlt]
      refine (byteful_calls (2 ^ k) h2 _).mono ?_
      rintro e w1 ⟨rfl, rfl⟩
      obtain ⟨z, hz⟩ : ∃ z : Nat, it 8 (2 ^ k) = z := ⟨_, rfl⟩
      rw [hz] at HP hbb ⊢
      clear hz
      go_wp2_with fail
      go_roundw
      case rel => exact ⟨k + 1, by omega, by go_num, HP.out, hbb⟩
      case measure => simp [intOf]; omega
    · obtain rfl : k = 32 := by omega
      rw [fill8_all] at hp
      go_wp2_with fail
      rw [show ((32 : Nat) : Int) = 32 from rfl]
      go_loopw [0, 5] (fun a v w2 => ∃ j x : Nat, a = .int .i64 x ∧ w2.heap[w.heap.size]? = some (.cells (pwL (8 * 2 ^ j)).toArray 43 (0, 0)) ∧ OwnRow RV 42 32 w2 w.heap.size v (tabs j) ∧ Below w.heap.size w w2 ∧ x < 9223372036854775808 ∧ Hid (x = n / 2 ^ j ∧ j ≤ 63)) (fun a _ _ => (intOf a).toNat)
      case atStart => 
        refine ⟨0, n, rfl, hp, ?_, hb, hn, ?_⟩
        · have : tabs 0 = [] := by simp [tabs]
          rw [this]
          exact OwnRow.none_ _ _ _ _ _
        · exact Lib.hid (by simp)
      case round =>
        obtain ⟨j, x, rfl, hp2, hv, hb2, hx, HX⟩ := hrel
        have hu47 := Tryd.underlying43
        have hi2 : (Tryd.prog.info? 43).map (·.size) = some (pwL (8 * 2 ^ j)).toArray.size := by
          rw [size47]; simp [pwL_len]
        have HI := Lib.hid hi2
        have HP := Lib.hid hp2
        clear hi2 hp2 hp hb
        have hlp : w.heap.size < wr.heap.size := (Array.getElem?_eq_some_iff.1 HP.out).1
        by_cases h0 : x = 0
        · have hat : ∀ A c, u5 = .slice A j c → 0 < j → ∃ g, A = some ⟨g, 0, none⟩ := by
            intro A c he hj0
            obtain ⟨inner, ⟨_, h2⟩, _⟩ := hv
            rcases h2 with ⟨e1, _⟩ | ⟨g, cap, cur, e1, _⟩
            · rw [he] at e1
              injection e1 with e2 e3 e4
              omega
            · rw [he] at e1
              injection e1 with e2 e3 e4
              exact ⟨g, e2⟩
          obtain ⟨A, c, rfl, hlc, hrd⟩ := hv.reads
          have hat2 := hat A c (by rw [tabs_len])
          have HAt := Lib.hid hat2
          clear hat hat2
          have hlen := tabs_len j
          rw [hlen] at hrd hlc
          have hfin : n < 2 ^ j := by
            have h1 := HX.out.1
            rcases Nat.div_eq_zero_iff.1 (h1.symm.trans h0) with h | h
            · exact absurd h (Nat.ne_of_gt (Nat.two_pow_pos j))
            · exact h
          have hj := HX.out.2
          have hgt : decide ((x : Int) > 0) = false := by simp; omega
          have hgt2 : ¬ (0 : Int) < (x : Int) := by omega
          have HL := Lib.hid hlen
          have HJ := Lib.hid hj
          have HFi := Lib.hid hfin
          have HRd := Lib.hid hrd
          have HLc := Lib.hid hlc
          have HHv := Lib.hid hv
          clear hlen h0 hrd hlc hfin hj hv
          go_wp2_with fail
          rw [HL.out]
          go_ret
          exact ⟨A, c, j, rfl, HLc.out, HRd.out, HAt.out, HFi.out, HJ.out, hb2⟩
        · have hgt : decide ((x : Int) > 0) = true := by simp; omega
          have hgt2 : (0 : Int) < (x : Int) := by omega
          have hj : j + 1 ≤ 63 := by
            obtain ⟨h1, h2⟩ := HX.out
            have h3 : 2 ^ j ≤ n := by
              rcases Nat.lt_or_ge n (2 ^ j) with h | h
              · exact absurd (h1.trans (Nat.div_eq_of_lt h)) h0
              · exact h
            rcases Nat.lt_or_ge j 63 with h | h
            · omega
            · have := Nat.pow_le_pow_right (n := 2) (by decide) h
              omega
          have h1c : ∀ u ∈ pwL (8 * 2 ^ j), u.oneCell' = true := by
            have := pwL_one (8 * 2 ^ j)
            simpa only [List.all_eq_true] using this
          have hl : ((tabs j).length + 1) * 128 ≤ 140737488355328 := by rw [tabs_len]; omega
          have hvl : (Value.agg (pwL (8 * 2 ^ j)).toArray).cells.size = 32 := by simp [Value.cells, pwL_len]
          have hlen32 := pwL_len (8 * 2 ^ j)
          have HV := Lib.hid hv
          have HL := Lib.hid hl
          have HVL := Lib.hid hvl
          have H32 := Lib.hid hlen32
          have H1 := Lib.hid h1c
          have HN : Hid (x / 2 = n / 2 ^ (j + 1) ∧ j + 1 ≤ 63) := by
            refine Lib.hid ⟨?_, hj⟩
            rw [HX.out.1, Nat.pow_succ, Nat.div_div_eq_div_mul]
          clear hv hl hvl hlen32 h1c hj HX
          go_wp2_with (first
            | (refine wpList_load_row rfl 43 (.tmp 3) rfl w.heap.size rfl _ _ _ _ HP3.out hu47 rfl HI.out ?_)
            | (refine wpList_load_row rfl 43 (.tmp 3) rfl w.heap.size rfl _ _ _ _ HP.out hu47 rfl HI.out ?_)
            | (refine Mid.wpList_buildSlice_one rfl 40 42 (.tmp 20) rfl (.agg (pwL (8 * 2 ^ j)).toArray) _ 32 128 Tryd.underlying40 info46 rfl rfl HVL.out (by decide) (by decide) ?_)
            | (at_builtin
               refine OwnRow.append (w0 := w) w.heap.size rfl (.tmp 19) (.tmp 21) 40 42 _ 32 128 rfl Tryd.underlying40 info46 rfl (by decide) (by decide) u5 (tabs j) (8 * 2 ^ j) (pwL (8 * 2 ^ j)) rfl rfl rfl H32.out H1.out HV.out hb2 (Nat.le_of_lt hlp) HL.out ?_
               intro v1 w3 ho3 hb3 hg3 hat3
               have HO3 := Lib.hid ho3
               have HP3 := Lib.hid ((hg3.block _ hlp (OwnRow.ne_block HV.out HP.out (by decide))).trans HP.out)
               have hlp3 : w.heap.size < w3.heap.size := (Array.getElem?_eq_some_iff.1 HP3.out).1
               clear ho3 hg3 hat3 hb2 HV)
            | fail)
          refine (twice_calls (8 * 2 ^ j) _).mono ?_
          rintro e w4 ⟨rfl, hb4⟩
          have hp4 : w4.heap[w.heap.size]? = some (.cells (pwL (8 * 2 ^ j)).toArray 43 (0, 0)) := (hb4.block _ hlp3).trans HP3.out
          have HP4 := Lib.hid hp4
          have HO4 := Lib.hid (HO3.out.below hb4)
          have hb5 := below_step hb3 hb4
          clear hb3 hb4 hp4 HO3 HP3 hlp3
          have hd2 : 8 * 2 ^ j + 8 * 2 ^ j = 8 * 2 ^ (j + 1) := by rw [Nat.pow_succ]; omega
          rw [hd2]
          clear hd2
          have HI2 := Lib.hid (show (Tryd.prog.info? 43).map (·.size) = some (pwL (8 * 2 ^ (j + 1))).toArray.size by rw [size47]; simp [pwL_len])
          have HS2 := Lib.hid (show (pwL (8 * 2 ^ j)).toArray.size = (pwL (8 * 2 ^ (j + 1))).toArray.size by simp [pwL_len])
          have HC2 := Lib.hid (show (pwL (8 * 2 ^ (j + 1))).toArray.all (·.oneCell') = true by simpa using pwL_one (8 * 2 ^ (j + 1)))
          go_wp2_with (first
            | (refine wpList_store_row rfl 43 (.tmp 3) (.tmp 24) rfl w.heap.size (pwL (8 * 2 ^ (j + 1))).toArray rfl rfl _ _ HP4.out HI2.out HS2.out HC2.out ?_)
            | fail)
          have hk4 : KeepBut w4 (w4.setRow w.heap.size (pwL (8 * 2 ^ (j + 1))).toArray) w.heap.size none := ⟨by simp, fun i _ hi _ => setRow_other _ _ _ _ hi⟩
          have hO := HO4.out.keep HP4.out (by decide) hk4
          rw [← tabs_succ] at hO
          have hPn := setRow_heap w4 w.heap.size _ (pwL (8 * 2 ^ (j + 1))).toArray _ _ HP4.out
          have hBn := below_setRow hb5 (Nat.le_refl _) (pwL (8 * 2 ^ (j + 1))).toArray
          go_roundw
          case rel => exact ⟨j + 1, x / 2, by go_num, hPn, hO, hBn, by omega, HN⟩
          case measure => simp [intOf]; omega
theorem and1_i64 (x : Nat) (h : x < 9223372036854775808) : Go.bits .and .i64 (x : Int) 1 = ((x % 2 : Nat) : Int) := by
  show IntKind.i64.wrap ((BitVec.ofInt 64 (x : Int) &&& BitVec.ofInt 64 1).toNat : Int) = _
  rw [BitVec.toNat_and, BitVec.toNat_ofInt, BitVec.toNat_ofInt]
  rw [show (((x : Int) % ((2 ^ 64 : Nat) : Int)).toNat) = x by omega, show (((1 : Int) % ((2 ^ 64 : Nat) : Int)).toNat) = 1 by decide, Nat.and_one_is_mod]
  exact IntWalk.i64_in _ (by omega)
theorem shr_int (n k : Nat) : ((n : Int) / 2 ^ k) = ((n / 2 ^ k : Nat) : Int) := by
  rw [show ((2 : Int) ^ k) = ((2 ^ k : Nat) : Int) by simp only [Int.natCast_pow]; rfl]
  exact (Int.natCast_ediv n (2 ^ k)).symm
theorem bit_test (n k : Nat) (h : n < 9223372036854775808) : (Go.bits .and .i64 ((n : Int) / 2 ^ k) 1 == 1) = decide (n / 2 ^ k % 2 = 1) := by
  rw [shr_int, and1_i64 _ (Nat.lt_of_le_of_lt (Nat.div_le_self _ _) h), Bool.eq_iff_iff]
  simp only [beq_iff_eq, decide_eq_true_eq]
  omega
theorem mod_next (n k : Nat) : n % 2 ^ (k + 1) = n % 2 ^ k + (if n / 2 ^ k % 2 = 1 then 2 ^ k else 0) := by
  rw [Nat.pow_succ, Nat.mod_mul]
  rcases (by omega : n / 2 ^ k % 2 = 0 ∨ n / 2 ^ k % 2 = 1) with h | h <;> simp [h]
theorem join_neg (a b n : Int) (hn : n < 0) (w : World) :
    Calls Tryd.prog 5 #[.int .u32 a, .int .u32 b, .int .i64 n] w fun e w' => e = .returned (.tuple #[.int .u32 0, .iface 39 (.int .i64 1)]) ∧ w' = w := by
  go_enter Tryd.func5, Tryd.ntmps5
  go_wp2
  go_ret2
  exact ⟨rfl, rfl⟩
set_option maxRecDepth 100000 in
set_option maxHeartbeats 1000000 in
theorem join_calls (a b n : Nat) (ha : a < 4294967296) (hb : b < 4294967296) (hn : n < 9223372036854775808) (w : World) :
    Calls Tryd.prog 5 #[.int .u32 a, .int .u32 b, .int .i64 n] w fun e w' => e = .returned (.tuple #[.int .u32 ((it (8 * n) a ^^^ b : Nat) : Int), .nilIface]) ∧ Below w.heap.size w w' := by
  have hnn : ¬ (n : Int) < 0 := by omega
  go_enter Tryd.func5, Tryd.ntmps5
  go_wp2_with fail
  refine (powers_calls n hn _).mono ?_
  rintro e w1 ⟨A, c, j, rfl, hjc, hrd, hat, hnj, hj63, hb1⟩
  have HRd := Lib.hid hrd
  have HAt := Lib.hid hat
  have HNj := Lib.hid hnj
  clear hrd hat hnj
  go_wp2_with fail
  go_loopw [0, 16] (fun x i wr => ∃ k y : Nat, k ≤ j ∧ i = .int .i64 k ∧ x = .int .u32 y ∧ y < 4294967296 ∧ Below w1.heap.size w1 wr ∧ Hid (y = it (8 * (n % 2 ^ k)) a)) (fun _ i _ => j - (intOf i).toNat)
  case atStart => exact ⟨0, a, by omega, rfl, rfl, ha, Below.refl _ _, Lib.hid (by simp [Nat.mod_one, it])⟩
  case round =>
    obtain ⟨k, y, hk, rfl, rfl, hy, hb2, HY⟩ := hrel
    by_cases hlt : k < j
    · obtain ⟨g, rfl⟩ := HAt.out (by omega)
      have hr : wr.rangeAt g (k * 32) (pwL (8 * 2 ^ k)) := by
        have h2 := ReadsRow.imp_ HRd.out hb2 (fun _ _ h => h)
        obtain ⟨ad, e, hc⟩ := h2.2.2 (by omega)
        cases e
        obtain ⟨cs, hl, hR, hcell⟩ := hc k _ (tabs_get j k hlt)
        subst hR
        intro i u hu
        have := hcell i u hu
        rwa [Addr.add_mid, Nat.zero_add] at this
      have hk0 : (0 : Int) ≤ (k : Int) := by omega
      have hk1 : (k : Int) < (j : Int) := by omega
      have hd : decide ((k : Int) < (j : Int)) = true := by simp; omega
      have HI := Lib.hid (show (Tryd.prog.info? 42).map (·.size) = some (pwL (8 * 2 ^ k)).length by rw [size46]; simp [pwL_len])
      have hu46 := Tryd.underlying42
      have HIa := Lib.hid (show (Tryd.prog.info? 42).map (·.size) = some (pwL (8 * 2 ^ k)).toArray.size by rw [size46]; simp [pwL_len])
      have HZs := Lib.hid (show 32 = (pwL (8 * 2 ^ k)).toArray.size by simp [pwL_len])
      have HC := Lib.hid (show (pwL (8 * 2 ^ k)).toArray.all (·.oneCell') = true by simpa using pwL_one (8 * 2 ^ k))
      clear HRd
      have hbB := Below.mono hb1 (Nat.le_refl _)
      by_cases hbit : n / 2 ^ k % 2 = 1
      · have hb0 : (Go.bits .and .i64 ((n : Int) / 2 ^ k) 1 == 1) = true := by rw [bit_test n k hn]; exact decide_eq_true hbit
        have HN : Hid (it (8 * 2 ^ k) y = it (8 * (n % 2 ^ (k + 1))) a) := by
          refine Lib.hid ?_
          rw [mod_next, if_pos hbit, HY.out, ← it_add, Nat.mul_add]
        have hz32 : it (8 * 2 ^ k) y < 4294967296 := it_lt _ hy
        clear hbit HY
        go_wp2_with (first
          | (refine wpList_load_mid rfl 42 (.tmp 19) rfl g (k * 32) rfl (pwL (8 * 2 ^ k)) _ hr hu46 rfl HI.out ?_)
          | (refine wpList_store_row rfl 42 (.tmp 9) (.tmp 20) rfl wr.heap.size (pwL (8 * 2 ^ k)).toArray rfl rfl _ _ (heap_alloc_new wr _) HIa.out HZs.out HC.out ?_)
          | (refine wpList_load_row rfl 42 (.tmp 9) rfl wr.heap.size rfl _ _ _ _ (setRow_heap _ _ _ _ _ _ (heap_alloc_new wr _)) hu46 rfl HIa.out ?_)
          | fail)
        rw [World.setRow_alloc_new]
        refine (of_calls (8 * 2 ^ k) y hy _).mono ?_
        rintro e w5 ⟨rfl, hb5⟩
        have hb6 := below_step hb2 (below_step (below_alloc (Below.refl wr.heap.size wr) _) hb5)
        clear hb5
        go_wp2_with fail
        go_roundw
        case rel => exact ⟨k + 1, it (8 * 2 ^ k) y, by omega, by go_num, rfl, hz32, hb6, HN⟩
        case measure => simp [intOf]; omega
      · have hb0 : (Go.bits .and .i64 ((n : Int) / 2 ^ k) 1 == 1) = false := by rw [bit_test n k hn]; exact decide_eq_false hbit
        have HN : Hid (y = it (8 * (n % 2 ^ (k + 1))) a) := by
          refine Lib.hid ?_
          rw [mod_next, if_neg hbit, HY.out, Nat.add_zero]
        clear hbit HY
        go_wp2_with (first
          | (refine wpList_load_mid rfl 42 (.tmp 19) rfl g (k * 32) rfl (pwL (8 * 2 ^ k)) _ hr hu46 rfl HI.out ?_)
          | (refine wpList_store_row rfl 42 (.tmp 9) (.tmp 20) rfl wr.heap.size (pwL (8 * 2 ^ k)).toArray rfl rfl _ _ (heap_alloc_new wr _) HIa.out HZs.out HC.out ?_)
          | fail)
        rw [World.setRow_alloc_new]
        have hb6 := below_step hb2 (below_alloc (Below.refl wr.heap.size wr) (.cells (pwL (8 * 2 ^ k)).toArray 42))
        refine ⟨⟨k + 1, y, by omega, by go_num, rfl, hy, hb6, HN⟩, by simp [intOf]; omega⟩
    · obtain rfl : k = j := by omega
      have HF := Lib.hid (show y = it (8 * n) a by rw [HY.out, Nat.mod_eq_of_lt HNj.out])
      have HX := Lib.hid (bits_xor (a := y) (b := b) hy hb)
      clear HY HRd HAt
      go_wp2_with fail
      go_ret2
      exact ⟨by rw [HX.out, HF.out]; rfl, below_step hb1 hb2⟩
end Go.Proofs.YtckihppdjoianaaDoor.Pow
