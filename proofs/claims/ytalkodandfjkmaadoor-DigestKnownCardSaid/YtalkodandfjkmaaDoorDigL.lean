/- A digest's letters in plain numbers: thirteen letters tell a number below 2^64, and the number tells them. -/
import Derived.Test.YtalkodandfjkmaaDoorDig
import Derived.Lib.Bytealg
namespace Go.Proofs.YtalkodandfjkmaaDoor.Dig
open Go.RowKit Go.Proofs.YtalkodandfjkmaaDoorW.PrintWords

/-- A letter's number; -1: it is none. -/
def val (c : UInt8) : Int := Lib.indexByte lets.data.toList c
theorem val_all : ∀ n : Fin 256, (-1 ≤ val (UInt8.ofNat n) ∧ val (UInt8.ofNat n) < 32) ∧ (0 ≤ val (UInt8.ofNat n) → letter (val (UInt8.ofNat n)) = UInt8.ofNat n) := by decide +kernel
theorem letter_all : ∀ n : Fin 32, val (letter (n.val : Int)) = (n.val : Int) := by decide +kernel
theorem val_lt (c : UInt8) : val c < 32 := by
  have h := (val_all ⟨c.toNat, c.toNat_lt⟩).1.2
  simpa using h
theorem letter_val (c : UInt8) (hc : 0 ≤ val c) : letter (val c) = c := by
  have h := (val_all ⟨c.toNat, c.toNat_lt⟩).2
  simp only [UInt8.ofNat_toNat] at h
  exact h hc
theorem val_letter (v : Int) (h0 : 0 ≤ v) (h1 : v < 32) : val (letter v) = v := by
  obtain ⟨n, rfl⟩ := Int.eq_ofNat_of_zero_le h0
  exact letter_all ⟨n, by omega⟩
theorem five_eq (h : Int) (hh : U64 h) (k : Nat) : five h k = h / 32 ^ k % 32 := by
  unfold five
  have hp : (2 : Int) ^ (5 * k) = 32 ^ k := by rw [Int.pow_mul]; rfl
  rw [hp]
  have hq : U64 (h / 32 ^ k) := by
    have hpos : (0 : Int) < 32 ^ k := Int.pow_pos (by omega)
    refine ⟨Int.ediv_nonneg hh.1 (by omega), ?_⟩
    have := Int.ediv_le_self (32 ^ k) hh.1
    have := hh.2
    omega
  generalize h / 32 ^ k = x at hq
  obtain ⟨n, rfl⟩ := Int.eq_ofNat_of_zero_le hq.1
  have hn : n < 18446744073709551616 := by have := hq.2; omega
  show IntKind.u64.wrap ((BitVec.ofInt 64 (n : Int) &&& BitVec.ofInt 64 31).toNat : Int) = _
  rw [BitVec.toNat_and]
  have e1 : (BitVec.ofInt 64 (n : Int)).toNat = n := by rw [BitVec.toNat_ofInt]; omega
  have e2 : (BitVec.ofInt 64 31).toNat = 2 ^ 5 - 1 := by decide
  rw [e1, e2, Nat.and_two_pow_sub_one_eq_mod, IntKind.wrap_u64]
  omega
theorem or_add (x v : Int) (hx : 0 ≤ x) (hv : 0 ≤ v) (hv2 : v < 32) (hb : x * 32 + v < 18446744073709551616) : Go.bits .or .u64 (IntKind.u64.wrap (x * 32)) (IntKind.u64.wrap v) = x * 32 + v := by
  obtain ⟨n, rfl⟩ := Int.eq_ofNat_of_zero_le hx
  obtain ⟨m, rfl⟩ := Int.eq_ofNat_of_zero_le hv
  rw [IntKind.wrap_u64, IntKind.wrap_u64]
  have e1 : ((n : Int) * 32) % 18446744073709551616 = ((n * 32 : Nat) : Int) := by omega
  have e2 : (m : Int) % 18446744073709551616 = (m : Int) := by omega
  rw [e1, e2]
  show IntKind.u64.wrap ((BitVec.ofInt 64 ((n * 32 : Nat) : Int) ||| BitVec.ofInt 64 (m : Int)).toNat : Int) = _
  rw [BitVec.toNat_or]
  have e3 : (BitVec.ofInt 64 ((n * 32 : Nat) : Int)).toNat = n * 32 := by rw [BitVec.toNat_ofInt]; omega
  have e4 : (BitVec.ofInt 64 (m : Int)).toNat = m := by rw [BitVec.toNat_ofInt]; omega
  rw [e3, e4]
  have e5 : n * 32 ||| m = n * 32 + m := by
    have := Nat.shiftLeft_add_eq_or_of_lt (i := 5) (show m < 2 ^ 5 by omega) n
    rw [Nat.shiftLeft_eq] at this
    simpa using this.symm
  rw [e5, IntKind.wrap_u64]
  omega
/-- Letters, read from the front. -/
def pars : List UInt8 → Bool → Int → Option Int
  | [], _, x => some x
  | c :: r, first, x => if val c < 0 then none else if first = true ∧ 15 < val c then none else pars r false (x * 32 + val c)
def cap (i : Nat) : Int := if i = 0 then 1 else 16 * 32 ^ (i - 1)
theorem cap_zero : cap 0 = 1 := by decide +kernel
theorem cap_one : cap 1 = 16 := by decide +kernel
theorem cap_succ (i : Nat) (hi : i ≠ 0) : cap (i + 1) = 32 * cap i := by
  unfold cap
  rw [if_neg (by omega), if_neg hi]
  obtain ⟨j, rfl⟩ : ∃ j, i = j + 1 := ⟨i - 1, by omega⟩
  simp only [Nat.add_sub_cancel, Int.pow_succ]
  omega
attribute [irreducible] cap
theorem cap_max (i : Nat) (h : i < 13) : cap (i + 1) ≤ 18446744073709551616 := by
  have e : ∀ m : Nat, m < 13 → cap (m + 1) ≤ 18446744073709551616 := by decide +kernel
  exact e i h
theorem cap_13 : cap (0 + 13) = 18446744073709551616 := by decide +kernel
theorem pow_13 : (32 : Int) ^ 13 = 36893488147419103232 := by decide +kernel
theorem pars_text (h : Int) (hh : U64 h) (d : Nat) : ∀ (i : Nat), i + d = 13 → pars ((List.range' i d).map fun j => letter (five h (12 - j))) (i == 0) (h / 32 ^ (13 - i)) = some h := by
  induction d with
  | zero =>
    intro i hi
    obtain rfl : i = 13 := by omega
    simp [pars]
  | succ d ih =>
    intro i hi
    rw [List.range'_succ, List.map_cons]
    have hpos : (0 : Int) < 32 ^ (12 - i) := Int.pow_pos (by omega)
    have e1 : (32 : Int) ^ (13 - i) = 32 ^ (12 - i) * 32 := by rw [show 13 - i = (12 - i) + 1 by omega, Int.pow_succ]
    have e2 : h / 32 ^ (13 - i) = h / 32 ^ (12 - i) / 32 := by rw [e1, Int.ediv_ediv_of_nonneg (by omega)]
    have e3 := five_eq h hh (12 - i)
    have h0 := Int.emod_nonneg (h / 32 ^ (12 - i)) (show (32 : Int) ≠ 0 by omega)
    have h1 := Int.emod_lt_of_pos (h / 32 ^ (12 - i)) (show (0 : Int) < 32 by omega)
    have ev : val (letter (five h (12 - i))) = h / 32 ^ (12 - i) % 32 := by rw [e3]; exact val_letter _ h0 h1
    rw [pars, ev, if_neg (by omega)]
    rw [if_neg]
    · have e4 : h / 32 ^ (13 - i) * 32 + h / 32 ^ (12 - i) % 32 = h / 32 ^ (13 - (i + 1)) := by
        rw [e2, show 13 - (i + 1) = 12 - i by omega]
        omega
      rw [e4]
      have := ih (i + 1) (by omega)
      simpa using this
    · rintro ⟨hf, hv⟩
      obtain rfl : i = 0 := by simpa using hf
      have : h / 32 ^ 12 ≤ 15 := by
        have := hh.2
        have e5 : (32 : Int) ^ 12 = 1152921504606846976 := by decide
        rw [e5]
        omega
      have e5 : h / 32 ^ (12 - 0) % 32 ≤ h / 32 ^ 12 := by
        have : 0 ≤ h / 32 ^ 12 := Int.ediv_nonneg hh.1 (by decide)
        simp only [Nat.sub_zero]
        omega
      omega
/-- What was read, letter by letter. -/
theorem pars_back (l : List UInt8) : ∀ (first : Bool) (x y : Int), 0 ≤ x → pars l first x = some y →
    0 ≤ y ∧ x = y / 32 ^ l.length ∧ ∀ (j : Nat) c, l[j]? = some c → c = letter (y / 32 ^ (l.length - 1 - j) % 32) := by
  induction l with
  | nil =>
    intro first x y hx h
    simp only [pars, Option.some.injEq] at h
    subst h
    exact ⟨hx, by simp, fun j c hj => by simp at hj⟩
  | cons c l ih =>
    intro first x y hx h
    rw [pars] at h
    split at h
    · simp at h
    · rename_i hv
      split at h
      · simp at h
      · obtain ⟨h0, h1, h2⟩ := ih false _ y (by omega) h
        have hlt := val_lt c
        have hp : (0 : Int) < 32 ^ l.length := Int.pow_pos (by omega)
        have e1 : y / 32 ^ (l.length + 1) = y / 32 ^ l.length / 32 := by rw [Int.pow_succ, Int.ediv_ediv_of_nonneg (by omega)]
        refine ⟨h0, ?_, fun j d hj => ?_⟩
        · rw [List.length_cons, e1, ← h1]
          omega
        · cases j with
          | zero =>
            simp only [List.getElem?_cons_zero, Option.some.injEq] at hj
            subst hj
            simp only [List.length_cons, Nat.add_sub_cancel, Nat.sub_zero]
            rw [← h1, show (x * 32 + val c) % 32 = val c by omega, letter_val c (by omega)]
          | succ j =>
            simp only [List.getElem?_cons_succ] at hj
            have := h2 j d hj
            rw [this]
            rw [List.length_cons, show l.length + 1 - 1 - (j + 1) = l.length - 1 - j by omega]
theorem pars_cap (l : List UInt8) : ∀ (i : Nat) (x y : Int), 0 ≤ x → x < cap i → pars l (i == 0) x = some y → y < cap (i + l.length) := by
  induction l with
  | nil =>
    intro i x y _ hx h
    simp only [pars, Option.some.injEq] at h
    subst h
    simpa using hx
  | cons c l ih =>
    intro i x y h0 hx h
    rw [pars] at h
    split at h
    · simp at h
    · rename_i hv
      split at h
      · simp at h
      · rename_i hf
        have hlt := val_lt c
        have hc : x * 32 + val c < cap (i + 1) := by
          by_cases hi : i = 0
          · subst hi
            have : ¬ 15 < val c := fun h => hf ⟨rfl, h⟩
            rw [cap_zero] at hx
            rw [cap_one]
            omega
          · rw [cap_succ i hi]; omega
        have := ih (i + 1) _ y (by omega) hc (by simpa using h)
        rw [List.length_cons, show i + (l.length + 1) = i + 1 + l.length by omega]
        exact this
end Go.Proofs.YtalkodandfjkmaaDoor.Dig
