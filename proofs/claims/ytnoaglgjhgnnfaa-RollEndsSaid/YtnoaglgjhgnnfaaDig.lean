/- (Where Of is not there.) Package digest: what its inner functions come to: a cell that holds a digest takes some bytes, a number, a text. -/
import Derived.Test.YtnoaglgjhgnnfaaProg
import Derived.WalkKit
import Derived.LoopTactic
import Derived.Tactics2
import Derived.Below
import Derived.Lib.Hide
import Derived.Outline
import Derived.Handy
import Derived.Lib.SlBytesConst
import Derived.Lib.SmallJoins
import Derived.Test.YtnoaglgjhgnnfaaWv
import Derived.Test.YtnoaglgjhgnnfaaDigP
namespace Go.Proofs.Ytnoaglgjhgnnfaa.Dig
open Go.RowKit Go.Proofs.YtnoaglgjhgnnfaaW.PrintWords

theorem setCell_same {w : World} {b o : Nat} {v : Value} (h : w.cell? ⟨b, o, none⟩ = some v) : w.setCell ⟨b, o, none⟩ v = w := by
  unfold World.cell? at h
  unfold World.setCell
  congr 1
  apply Array.ext_getElem?
  intro i
  rw [Array.getElem?_modify]
  split
  · rename_i e
    subst e
    cases hb : w.heap[b]? with
    | none => rfl
    | some ob =>
      rw [hb] at h
      cases ob with
      | cells c e f =>
        simp only [Option.map_some, Option.isSome_none, Bool.false_eq_true, if_false] at h ⊢
        congr 2
        obtain ⟨hlt, hv⟩ := Array.getElem?_eq_some_iff.1 h
        apply Array.ext
        · simp
        · intro j h1 h2
          rw [Array.getElem_setIfInBounds]
          split
          · rename_i e; subst e; exact hv.symm
          · rfl
      | _ => rfl
  · rfl
theorem add_ne {ad : Addr} {b o : Nat} (h : ad.block ≠ b) (k : Nat) : (⟨b, o, none⟩ : Addr) ≠ ad.add k := by
  intro e
  apply h
  have e2 := congrArg Addr.block e
  rw [show (ad.add k).block = ad.block by unfold Addr.add; split <;> rfl] at e2
  exact e2.symm
theorem setCell_twice (w : World) (b o : Nat) (v v' : Value) : (w.setCell ⟨b, o, none⟩ v).setCell ⟨b, o, none⟩ v' = w.setCell ⟨b, o, none⟩ v' := by
  unfold World.setCell
  congr 1
  apply Array.ext_getElem?
  intro i
  simp only [Array.getElem?_modify]
  split
  · cases hb : w.heap[i]? with
    | none => rfl
    | some ob => cases ob <;> simp
  · rfl
set_option maxHeartbeats 400000 in
theorem bytes_calls (b o : Nat) (A : Option Addr) (c : Nat) (l : List Int) (h0 : Int) (w : World) (hp : w.cell? ⟨b, o, none⟩ = some (.int .u64 h0)) (hfz : w.frozen? ⟨b, o, none⟩ = false)
    (hr : Kd.C (Kd.int .u8) w A l.length l) (hm : l.length ≤ 9223372036854775807) (hne : ∀ ad, A = some ad → 0 < l.length → ad.block ≠ b) :
    Calls Try.prog 109 #[.pointer (some ⟨b, o, none⟩), .slice A l.length c] w fun e w' => e = .returned (.tuple #[]) ∧ w' = w.setCell ⟨b, o, none⟩ (.int .u64 (fnvL h0 l)) := by
  have HR := Lib.hid hr
  have HN := Lib.hid hne
  have HP := Lib.hid hp
  have HS : Hid (∀ v v', (w.setCell ⟨b, o, none⟩ v).setCell ⟨b, o, none⟩ v' = w.setCell ⟨b, o, none⟩ v') := setCell_twice w b o
  clear hr hne hp
  go_enter Try.func109, Try.ntmps109
  go_wp2
  go_loopw [8] (fun i wr => ∃ k : Nat, k ≤ l.length ∧ i = .int .i64 k ∧ wr = w.setCell ⟨b, o, none⟩ (.int .u64 (fnvL h0 (l.take k)))) (fun i _ => l.length - (intOf i).toNat)
  case atStart => exact ⟨0, Nat.zero_le _, rfl, (setCell_same HP.out).symm⟩
  case round =>
    obtain ⟨k, hk, rfl, rfl⟩ := hrel
    by_cases hlt : k < l.length
    · obtain ⟨ad, rfl, hx⟩ := Kd.at_int HR.out (k : Int) (by omega) (by omega)
      have hb : ad.block ≠ b := HN.out ad rfl (by omega)
      have hx2 := (World.cell?_setCell_other w ⟨b, o, none⟩ (ad.add k) (.int .u64 (fnvL h0 (l.take k))) (add_ne hb k)).trans hx
      have hq : (w.setCell ⟨b, o, none⟩ (.int .u64 (fnvL h0 (l.take k)))).cell? ⟨b, o, none⟩ = some (.int .u64 (fnvL h0 (l.take k))) := World.cell?_setCell_same w _ _ HP.out
      have hs := HS.out
      have HE := Lib.hid (fnv_snoc h0 l k hlt)
      clear hx hb
      go_wp2
      go_roundw
      case rel => exact ⟨k + 1, by omega, by go_num, by rw [HE.out]; rfl⟩
      case measure => simp [intOf]; omega
    · obtain rfl : k = l.length := by omega
      go_wp2
      go_end0
      exact ⟨rfl, rfl⟩
def lets : ByteArray := { data := #[97, 98, 99, 100, 101, 102, 103, 104, 105, 106, 107, 108, 109, 110, 111, 112, 113, 114, 115, 116, 117, 118, 119, 120, 121, 122, 50, 51, 52, 53, 54, 55] }
/-- Five bits of a number, from bit 5k on. -/
def five (h : Int) (k : Nat) : Int := Go.bits .and .u64 (h / 2 ^ (5 * k)) 31
theorem and31 (x : Int) : 0 ≤ Go.bits .and .u64 x 31 ∧ Go.bits .and .u64 x 31 < 32 := by
  show 0 ≤ IntKind.u64.wrap ((BitVec.ofInt 64 x &&& BitVec.ofInt 64 31).toNat : Int) ∧ IntKind.u64.wrap ((BitVec.ofInt 64 x &&& BitVec.ofInt 64 31).toNat : Int) < 32
  have h : (BitVec.ofInt 64 x &&& BitVec.ofInt 64 31).toNat < 32 := by
    rw [BitVec.toNat_and]
    exact Nat.lt_of_le_of_lt Nat.and_le_right (by decide)
  rw [IntKind.wrap_u64]
  omega
/-- The letter of a number below 32. -/
def letter (v : Int) : UInt8 := lets.data.getD v.toNat 0
def tcell (h : Int) (k : Nat) : Value := .int .u8 ((letter (five h k)).toNat : Int)
/-- The letters' array behind k rounds. -/
def arrT (h : Int) : Nat → Array Value
  | 0 => #[.int .u8 0, .int .u8 0, .int .u8 0, .int .u8 0, .int .u8 0, .int .u8 0, .int .u8 0, .int .u8 0, .int .u8 0, .int .u8 0, .int .u8 0, .int .u8 0, .int .u8 0]
  | k + 1 => (arrT h k).setIfInBounds (12 - k) (tcell h k)
theorem arrT_size (h : Int) (k : Nat) : (arrT h k).size = 13 := by
  induction k with
  | zero => rfl
  | succ k ih => simp [arrT, ih]
/-- A digest's letters. -/
def textB (h : Int) : ByteArray := ⟨#[letter (five h 12), letter (five h 11), letter (five h 10), letter (five h 9), letter (five h 8), letter (five h 7), letter (five h 6), letter (five h 5), letter (five h 4), letter (five h 3), letter (five h 2), letter (five h 1), letter (five h 0)]⟩
theorem arrT_end (h : Int) : arrT h 13 = #[tcell h 12, tcell h 11, tcell h 10, tcell h 9, tcell h 8, tcell h 7, tcell h 6, tcell h 5, tcell h 4, tcell h 3, tcell h 2, tcell h 1, tcell h 0] := by simp [arrT]
theorem byte_getD (b : ByteArray) (i : Nat) (h : i < b.size) : b[i] = b.data.getD i 0 := by
  have h2 : i < b.data.size := h
  rw [Array.getD_eq_getD_getElem?, Array.getElem?_eq_getElem h2]
  rfl
theorem letter_at (v : Int) (hlt : v.toNat < lets.size) : lets[v.toNat] = letter v := byte_getD lets v.toNat hlt
theorem cell_new (w : World) (cs : Array Value) (t : TypeId) (fr : Nat × Nat) (j : Nat) : (w.alloc (.cells cs t fr)).cell? ⟨w.heap.size, j, none⟩ = cs[j]? := by
  have e : (w.alloc (.cells cs t fr)).heap[w.heap.size]? = some (.cells cs t fr) := by
    show (w.heap.push _)[w.heap.size]? = _
    simp
  unfold World.cell?
  rw [e]
  rfl
/-- A new row of numbers reads as they are. -/
theorem C_new (k : IntKind) (w : World) (l : List Int) (t : TypeId) (fr : Nat × Nat) (hl : l.length ≤ 9223372036854775807) : Kd.C (Kd.int k) (w.alloc (.cells (l.map (Value.int k)).toArray t fr)) (some ⟨w.heap.size, 0, none⟩) l.length l := by
  refine ⟨rfl, hl, fun _ => ⟨_, rfl, fun j p hj => ⟨[.int k p], rfl, rfl, fun i u hi => ?_⟩⟩⟩
  have hs : (Kd.int k).sz = 1 := rfl
  cases i with
  | succ i => simp at hi
  | zero =>
    simp only [List.getElem?_cons_zero, Option.some.injEq] at hi
    subst hi
    rw [hs, Nat.mul_one, Nat.add_zero]
    have e : (⟨w.heap.size, 0, none⟩ : Addr).add j = ⟨w.heap.size, j, none⟩ := by
      unfold Addr.add
      split
      · rename_i h; rw [h]
      · simp
    rw [e, cell_new]
    simp [hj]
def textN (h : Int) : List Int := [12, 11, 10, 9, 8, 7, 6, 5, 4, 3, 2, 1, 0].map fun k => ((letter (five h k)).toNat : Int)
theorem textN_str (h : Int) : strOfNums (textN h) = textB h := by
  simp [strOfNums, textN, textB]
set_option maxRecDepth 100000 in
set_option maxHeartbeats 400000 in
theorem text_calls (h : Int) (w : World) :
    Calls Try.prog 47 #[.int .u64 h] w fun e w' => e = .returned (.string (textB h)) ∧ Below w.heap.size w w' := by
  go_enter Try.func47, Try.ntmps47
  go_wp2
  go_loopw [5] (fun i wr => ∃ k : Nat, k ≤ 13 ∧ i = .int .i64 k ∧ wr = w.alloc (.cells (arrT h k) 112)) (fun i _ => 13 - (intOf i).toNat)
  case atStart => exact ⟨0, by omega, rfl, rfl⟩
  case round =>
    obtain ⟨k, hk, rfl, rfl⟩ := hrel
    by_cases hlt : k < 13
    · have h5 := and31 (h / 2 ^ (5 * k))
      have hsz := arrT_size h k
      have hlt2 : 12 - k < (arrT h k).size := by omega
      obtain ⟨x, hg⟩ : ∃ x, (arrT h k)[12 - k]? = some x := ⟨_, Array.getElem?_eq_getElem hlt2⟩
      have HL := Lib.hid (letter_at (five h k) (by have := h5; unfold five; show _ < 32; omega))
      have HA : Hid (arrT h (k + 1) = (arrT h k).setIfInBounds (12 - k) (tcell h k)) := rfl
      clear hsz hlt2
      go_wp2
      go_roundw
      case rel => exact ⟨k + 1, by omega, by go_num, by rw [HA.out]; unfold tcell; rw [← HL.out]; rfl⟩
      case measure => simp [intOf]; omega
    · obtain rfl : k = 13 := by omega
      rw [arrT_end]
      have hconv : (convert 104 9 (.slice (some ⟨w.heap.size, 0, none⟩) 13 13)).run Try.prog (w.alloc (.cells #[tcell h 12, tcell h 11, tcell h 10, tcell h 9, tcell h 8, tcell h 7, tcell h 6, tcell h 5, tcell h 4, tcell h 3, tcell h 2, tcell h 1, tcell h 0] 112)) = .ok (.string (textB h)) _ :=
        textN_str h ▸ Kd.C_string Try.underlying104 Try.underlying5 Try.underlying9 (C_new .u8 w (textN h) 112 (0, 0) (by simp [textN]))
      go_wp2
      go_ret
      exact ⟨rfl, (Below.refl _ _).alloc (Nat.le_refl _) _⟩
end Go.Proofs.Ytnoaglgjhgnnfaa.Dig
