/- Words for plain proofs about printed functions: from some number of rounds on; small sums of whole numbers. -/
import Derived.IntWalk
import Derived.Test.YtalkodandfjkmaaDoorWWords
import Derived.Test.YtalkodandfjkmaaDoorWMore
namespace Go.Proofs.YtalkodandfjkmaaDoorW.PrintWords
open Go.RowKit
theorem Ev.pos {α : Type} {c : Prop} [Decidable c] {f g : Nat → Option α} {r : α} (h : c) (k : Ev f r) : Ev (fun n => if c then f n else g n) r := Ev.congr (fun _ => if_pos h) k
theorem Ev.neg {α : Type} {c : Prop} [Decidable c] {f g : Nat → Option α} {r : α} (h : ¬ c) (k : Ev g r) : Ev (fun n => if c then f n else g n) r := Ev.congr (fun _ => if_neg h) k
theorem Ev.val {α β : Type} {o : Option α} {f : Nat → α → Option β} {a : α} {r : β} (h : o = some a) (k : Ev (fun n => f n a) r) : Ev (fun n => o.bind (f n)) r := Ev.congr (fun _ => by rw [h, Option.bind_some]) k
theorem Ev.cast {α : Type} {g : Nat → Option α} {r r' : α} (h : r = r') (k : Ev g r) : Ev g r' := h ▸ k
/-- Two and more at one number of rounds. -/
theorem Ev.both {α β : Type} {f : Nat → Option α} {g : Nat → Option β} {a : α} {b : β} (h : Ev f a) (k : Ev g b) : ∃ K, ∀ n, K ≤ n → f n = some a ∧ g n = some b := by
  obtain ⟨K, h⟩ := h
  obtain ⟨L, k⟩ := k
  exact ⟨max K L, fun n hn => ⟨h n (by omega), k n (by omega)⟩⟩
theorem wu_one (a : Nat) (h : a < 9223372036854775807) : wrap64 ((a : Int) + 1) = ((a + 1 : Nat) : Int) := by rw [IntWalk.wrap64_in _ ⟨by omega, by omega⟩]; rfl
theorem wu_add (n m : Nat) (h : n + m < 9223372036854775808) : wrap64 ((n : Int) + (m : Int)) = ((n + m : Nat) : Int) := by rw [IntWalk.wrap64_in _ ⟨by omega, by omega⟩]; omega
theorem wu_sub (n m : Nat) (h : m ≤ n) (hn : n < 9223372036854775808) : wrap64 ((n : Int) - (m : Int)) = ((n - m : Nat) : Int) := by rw [IntWalk.wrap64_in _ ⟨by omega, by omega⟩]; omega
theorem wu_id (n : Int) (h0 : -9223372036854775808 ≤ n) (h1 : n < 9223372036854775808) : wrap64 n = n := IntWalk.wrap64_in _ ⟨h0, by omega⟩
theorem shr_nat (k : IntKind) (x y : Nat) (h : y ≤ k.bits) : shr k (x : Int) (y : Int) = ((x / 2 ^ y : Nat) : Int) := by
  unfold shr
  rw [Int.toNat_natCast, Nat.min_eq_left h]
  have e : ((2 : Int) ^ y) = ((2 ^ y : Nat) : Int) := by simp only [Int.natCast_pow]; rfl
  rw [e]
  exact (Int.natCast_ediv x (2 ^ y)).symm
theorem rd_nat (xs : List Int) (i : Nat) : rd xs (i : Int) = xs.getD i 0 := by
  unfold rd
  rw [Int.toNat_natCast]
end Go.Proofs.YtalkodandfjkmaaDoorW.PrintWords
