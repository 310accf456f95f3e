/- The sum's mathematics: a register as a number; a bit that falls out; rows of bytes as one number. -/
import Derived.Laws.BitsLemmas
import Derived.IntWalk
set_option linter.unusedVariables false
set_option linter.unusedSimpArgs false
namespace Go.Proofs.YtckihppdjoianaaDoor.Crc
open Go Go.RowKit

def P : Nat := 2197175160
/-- A register behind one bit that falls out. -/
def step (x : Nat) : Nat := x / 2 ^^^ (if x % 2 = 1 then P else 0)
def it : Nat → Nat → Nat
  | 0, x => x
  | n + 1, x => it n (step x)
theorem xor_div (x y : Nat) : (x ^^^ y) / 2 = x / 2 ^^^ y / 2 := by
  have := Nat.shiftRight_xor_distrib (a := x) (b := y) (i := 1)
  simpa [Nat.shiftRight_succ] using this
theorem xor_mod (x y : Nat) : (x ^^^ y) % 2 = (x % 2 + y % 2) % 2 := by
  have h := Nat.testBit_xor x y 0
  simp only [Nat.testBit_zero] at h
  have hx : x % 2 < 2 := Nat.mod_lt _ (by decide)
  have hy : y % 2 < 2 := Nat.mod_lt _ (by decide)
  have hz : (x ^^^ y) % 2 < 2 := Nat.mod_lt _ (by decide)
  generalize (x ^^^ y) % 2 = z at *
  generalize x % 2 = a at *
  generalize y % 2 = b at *
  rcases (by omega : a = 0 ∨ a = 1) with rfl | rfl <;> rcases (by omega : b = 0 ∨ b = 1) with rfl | rfl <;> rcases (by omega : z = 0 ∨ z = 1) with rfl | rfl <;> simp_all
theorem step_xor (x y : Nat) : step (x ^^^ y) = step x ^^^ step y := by
  unfold step
  rw [xor_div, xor_mod]
  have hx : x % 2 = 0 ∨ x % 2 = 1 := by omega
  have hy : y % 2 = 0 ∨ y % 2 = 1 := by omega
  rcases hx with h1 | h1 <;> rcases hy with h2 | h2 <;> rw [h1, h2] <;> simp
  · rw [Nat.xor_assoc]
  · rw [Nat.xor_assoc, Nat.xor_assoc (x / 2) P, Nat.xor_comm P]
  · rw [Nat.xor_assoc, ← Nat.xor_assoc P, Nat.xor_comm P, Nat.xor_assoc (y / 2) P P, Nat.xor_self, Nat.xor_zero]
theorem step_zero : step 0 = 0 := by decide
theorem step_two (y : Nat) : step (2 * y) = y := by
  unfold step
  rw [if_neg (by omega), Nat.xor_zero]
  omega
theorem it_xor (n : Nat) : ∀ x y, it n (x ^^^ y) = it n x ^^^ it n y := by
  induction n with
  | zero => intro x y; rfl
  | succ n ih => intro x y; simp only [it]; rw [step_xor, ih]
theorem it_zero (n : Nat) : it n 0 = 0 := by
  induction n with
  | zero => rfl
  | succ n ih => simp only [it]; rw [step_zero, ih]
theorem it_add (m n : Nat) : ∀ x, it (m + n) x = it n (it m x) := by
  induction m with
  | zero => intro x; simp [it]
  | succ m ih => intro x; rw [Nat.add_right_comm]; simp only [it]; rw [ih]
theorem it_pow (n : Nat) : ∀ y, it n (2 ^ n * y) = y := by
  induction n with
  | zero => intro y; simp [it]
  | succ n ih => intro y; simp only [it]; rw [Nat.pow_succ, Nat.mul_comm (2 ^ n) 2, Nat.mul_assoc, step_two, ih]
theorem step_lt {x : Nat} (h : x < 2 ^ 32) : step x < 2 ^ 32 := by
  unfold step
  refine Nat.xor_lt_two_pow (by omega) ?_
  split
  · decide
  · decide
theorem it_lt (n : Nat) : ∀ {x : Nat}, x < 2 ^ 32 → it n x < 2 ^ 32 := by
  induction n with
  | zero => intro x h; exact h
  | succ n ih => intro x h; exact ih (step_lt h)
theorem step_ne {x : Nat} (h : x < 2 ^ 32) (h0 : step x = 0) : x = 0 := by
  unfold step at h0
  by_cases hb : x % 2 = 1
  · rw [if_pos hb] at h0
    have h1 : (x / 2 ^^^ P).testBit 31 = true := by
      rw [Nat.testBit_xor, Nat.testBit_lt_two_pow (show x / 2 < 2 ^ 31 by omega)]
      decide
    rw [h0] at h1
    simp at h1
  · rw [if_neg hb, Nat.xor_zero] at h0
    omega
theorem it_ne (n : Nat) : ∀ {x : Nat}, x < 2 ^ 32 → it n x = 0 → x = 0 := by
  induction n with
  | zero => intro x _ h; exact h
  | succ n ih => intro x h h0; exact step_ne h (ih (step_lt h) h0)
/-- A row of bytes as one number, the first one lowest. -/
def num : List Nat → Nat
  | [] => 0
  | c :: l => c + 256 * num l
/-- The register behind a row of bytes. -/
def crc (s : Nat) : List Nat → Nat
  | [] => s
  | c :: l => crc (it 8 (s ^^^ c)) l
theorem add_xor {c m : Nat} (h : c < 256) : c + 256 * m = c ^^^ (256 * m) := by
  have := Nat.two_pow_add_eq_or_of_lt (i := 8) (b := c) h m
  have h2 : (2 ^ 8 * m) ||| c = (2 ^ 8 * m) ^^^ c := by
    apply Nat.eq_of_testBit_eq
    intro i
    rw [Nat.testBit_or, Nat.testBit_xor]
    by_cases hi : i < 8
    · have : (2 ^ 8 * m).testBit i = false := by rw [Nat.testBit_two_pow_mul]; simp; omega
      rw [this]; simp
    · have : c.testBit i = false := Nat.testBit_lt_two_pow (Nat.lt_of_lt_of_le (show c < 2 ^ 8 from h) (Nat.pow_le_pow_right (n := 2) (by decide) (show 8 ≤ i by omega)))
      rw [this]; simp
  rw [Nat.add_comm, show 256 = 2 ^ 8 from rfl, this, h2, Nat.xor_comm]
theorem crc_num (l : List Nat) : ∀ s, (∀ c ∈ l, c < 256) → crc s l = it (8 * l.length) (s ^^^ num l) := by
  induction l with
  | nil => intro s _; simp [crc, num, it]
  | cons c l ih =>
    intro s h
    have hc : c < 256 := h c List.mem_cons_self
    simp only [crc, num, List.length_cons]
    rw [ih _ (fun x hx => h x (List.mem_cons_of_mem _ hx)), show 8 * (l.length + 1) = 8 + 8 * l.length by omega, it_add, add_xor hc, ← Nat.xor_assoc, it_xor 8 (s ^^^ c) (256 * num l), show 256 * num l = 2 ^ 8 * num l from rfl, it_pow]
theorem crc_append (l m : List Nat) : ∀ s, crc s (l ++ m) = crc (crc s l) m := by
  induction l with
  | nil => intro s; rfl
  | cons c l ih => intro s; exact ih _
theorem crc_lt (l : List Nat) : ∀ {s : Nat}, (∀ c ∈ l, c < 256) → s < 2 ^ 32 → crc s l < 2 ^ 32 := by
  induction l with
  | nil => intro s _ h; exact h
  | cons c l ih =>
    intro s h hs
    exact ih (fun x hx => h x (List.mem_cons_of_mem _ hx)) (it_lt 8 (Nat.xor_lt_two_pow hs (Nat.lt_of_lt_of_le (h c List.mem_cons_self) (by decide))))
/-- One bit turned. -/
theorem num_set (l : List Nat) : ∀ (j t : Nat) (hj : j < l.length), (∀ c ∈ l, c < 256) → t < 8 → num (l.set j (l[j] ^^^ 2 ^ t)) = num l ^^^ 2 ^ (8 * j + t) := by
  induction l with
  | nil => intro j t hj; simp at hj
  | cons c l ih =>
    intro j t hj h ht
    have hc : c < 256 := h c List.mem_cons_self
    have h2 : (2 : Nat) ^ t < 256 := Nat.lt_of_lt_of_le (Nat.pow_lt_pow_right (by decide) ht) (by decide)
    cases j with
    | zero =>
      simp only [List.set_cons_zero, List.getElem_cons_zero, num]
      rw [add_xor (show c ^^^ 2 ^ t < 256 from Nat.xor_lt_two_pow (n := 8) hc h2), add_xor hc, Nat.xor_assoc, Nat.xor_assoc, Nat.xor_comm (2 ^ t)]
      simp
    | succ j =>
      simp only [List.set_cons_succ, List.getElem_cons_succ, num]
      rw [ih j t (by simpa using hj) (fun x hx => h x (List.mem_cons_of_mem _ hx)) ht, add_xor hc, add_xor hc, Nat.xor_assoc]
      congr 1
      have e : ∀ a b : Nat, 256 * (a ^^^ b) = 256 * a ^^^ 256 * b := by
        intro a b
        have := Nat.shiftLeft_xor_distrib (a := a) (b := b) (i := 8)
        simpa [Nat.shiftLeft_eq, Nat.mul_comm] using this
      rw [e, show 8 * (j + 1) + t = 8 + (8 * j + t) by omega, Nat.pow_add 2 8]
/-- Rows of one length have one sum just if the turned bits fall out to nothing. -/
theorem crc_eq (s : Nat) (l m : List Nat) (hl : ∀ c ∈ l, c < 256) (hm : ∀ c ∈ m, c < 256) (hn : m.length = l.length) : crc s l = crc s m ↔ it (8 * l.length) (num l ^^^ num m) = 0 := by
  rw [crc_num l s hl, crc_num m s hm, hn]
  have e : num l ^^^ num m = (s ^^^ num l) ^^^ (s ^^^ num m) := by
    rw [Nat.xor_assoc, ← Nat.xor_assoc (num l), Nat.xor_comm (num l) s, Nat.xor_assoc s (num l), ← Nat.xor_assoc s s, Nat.xor_self, Nat.zero_xor]
  rw [e, it_xor _ (s ^^^ num l) (s ^^^ num m)]
  constructor
  · intro h; rw [h, Nat.xor_self]
  · intro h
    have h2 := congrArg (· ^^^ it (8 * l.length) (s ^^^ num m)) h
    simpa [Nat.xor_assoc] using h2
/-- Bits turned within 32 places are seen. -/
theorem seen (s : Nat) (l m : List Nat) (hl : ∀ c ∈ l, c < 256) (hm : ∀ c ∈ m, c < 256) (hn : m.length = l.length) (k p : Nat) (hk : k ≤ 8 * l.length) (hp : p < 2 ^ 32) (h : num m = num l ^^^ (2 ^ k * p)) :
    crc s l = crc s m ↔ p = 0 := by
  rw [crc_eq s l m hl hm hn, h, ← Nat.xor_assoc, Nat.xor_self, Nat.zero_xor, show 8 * l.length = k + (8 * l.length - k) by omega, it_add, it_pow]
  constructor
  · exact it_ne _ hp
  · rintro rfl; exact it_zero _
/-! ### The words of the program, over numbers of 32 bits -/
theorem bits_xor {a b : Nat} (ha : a < 2 ^ 32) (hb : b < 2 ^ 32) : Go.bits .xor .u32 (a : Int) (b : Int) = ((a ^^^ b : Nat) : Int) := by
  show IntKind.u32.wrap ((BitVec.ofInt 32 a ^^^ BitVec.ofInt 32 b).toNat : Int) = _
  rw [IntKind.wrap_u32, BitVec.toNat_xor, BitVec.toNat_ofInt, BitVec.toNat_ofInt]
  have h := Nat.xor_lt_two_pow ha hb
  rw [show (((a : Int) % ((2 ^ 32 : Nat) : Int)).toNat) = a by omega, show (((b : Int) % ((2 ^ 32 : Nat) : Int)).toNat) = b by omega]
  omega
theorem bits_and {a b : Nat} (ha : a < 2 ^ 32) (hb : b < 2 ^ 32) : Go.bits .and .u32 (a : Int) (b : Int) = ((a &&& b : Nat) : Int) := by
  show IntKind.u32.wrap ((BitVec.ofInt 32 a &&& BitVec.ofInt 32 b).toNat : Int) = _
  rw [IntKind.wrap_u32, BitVec.toNat_and, BitVec.toNat_ofInt, BitVec.toNat_ofInt]
  have h : a &&& b < 2 ^ 32 := Nat.lt_of_le_of_lt Nat.and_le_left ha
  rw [show (((a : Int) % ((2 ^ 32 : Nat) : Int)).toNat) = a by omega, show (((b : Int) % ((2 ^ 32 : Nat) : Int)).toNat) = b by omega]
  omega
def ones : Nat := 4294967295
theorem and_one (a : Nat) : a &&& 1 = a % 2 := Nat.and_one_is_mod a
theorem and_ones {a : Nat} (h : a < 2 ^ 32) : a &&& ones = a := by
  have := Nat.and_two_pow_sub_one_eq_mod a 32
  rw [show ones = 2 ^ 32 - 1 from rfl, this, Nat.mod_eq_of_lt h]
/-- '^'s other word: p & -(r & 1). -/
theorem mask (p : Nat) (hp : p < 2 ^ 32) (r : Nat) (hr : r < 2 ^ 32) : Go.bits .and .u32 (p : Int) ((-(Go.bits .and .u32 (r : Int) 1)) % 4294967296) = ((if r % 2 = 1 then p else 0 : Nat) : Int) := by
  have h1 : Go.bits .and .u32 (r : Int) 1 = ((r % 2 : Nat) : Int) := by
    have := bits_and hr (show 1 < 2 ^ 32 by decide)
    rw [and_one] at this
    exact this
  rw [h1]
  rcases (by omega : r % 2 = 0 ∨ r % 2 = 1) with h | h
  · rw [h, if_neg (by decide)]
    have := bits_and hp (show 0 < 2 ^ 32 by decide)
    simpa using this
  · rw [h, if_pos rfl]
    have := bits_and hp (show ones < 2 ^ 32 by decide)
    rw [and_ones hp] at this
    exact this
theorem step_go {r : Nat} (h : r < 2 ^ 32) : Go.bits .xor .u32 ((r : Int) / 2) (Go.bits .and .u32 2197175160 ((-(Go.bits .and .u32 (r : Int) 1)) % 4294967296)) = (step r : Int) := by
  have hm := mask P (by decide) r h
  rw [show (2197175160 : Int) = (P : Int) from rfl, hm, show (r : Int) / 2 = ((r / 2 : Nat) : Int) by omega]
  exact bits_xor (by omega) (by split <;> decide)
theorem bit_go {r : Nat} (h : r < 2 ^ 32) : (if (Go.bits .and .u32 (r : Int) 1) = 1 then (some (Go.bits .xor .u32 ((r : Int) / 2) 2197175160)) else (some ((r : Int) / 2))) = some (step r : Int) := by
  have h1 : Go.bits .and .u32 (r : Int) 1 = ((r % 2 : Nat) : Int) := by
    have := bits_and h (show 1 < 2 ^ 32 by decide)
    rw [and_one] at this
    exact this
  rw [h1, show (r : Int) / 2 = ((r / 2 : Nat) : Int) by omega]
  unfold step
  rcases (by omega : r % 2 = 0 ∨ r % 2 = 1) with h | h
  · rw [h, if_neg (by decide), if_neg (by decide), Nat.xor_zero]
  · rw [h, if_pos (show ((1 : Nat) : Int) = 1 from rfl), if_pos rfl]
    congr 1
    exact bits_xor (b := P) (by omega) (by decide)
theorem not_go {r : Nat} (h : r < 2 ^ 32) : Go.bits .xor .u32 4294967295 (r : Int) = ((ones ^^^ r : Nat) : Int) := bits_xor (a := ones) (by decide) h
theorem not_lt {r : Nat} (h : r < 2 ^ 32) : ones ^^^ r < 2 ^ 32 := Nat.xor_lt_two_pow (by decide) h
theorem not_inj {a b : Nat} : ones ^^^ a = ones ^^^ b ↔ a = b := by
  constructor
  · intro h
    have := congrArg (ones ^^^ ·) h
    simpa [← Nat.xor_assoc] using this
  · rintro rfl; rfl
theorem w_up8 (d : Nat) (h : d + 1 ≤ 8) : wrap64 (8 - ((d + 1 : Nat) : Int) + 1) = 8 - (d : Int) := by rw [IntWalk.wrap64_in _ ⟨by omega, by omega⟩]; omega
theorem w_one (a : Nat) (h : a + 1 < 9223372036854775808) : wrap64 ((a : Int) + 1) = ((a + 1 : Nat) : Int) := by rw [IntWalk.wrap64_in _ ⟨by omega, by omega⟩]; rfl
def nats (l : List Int) : List Nat := l.map Int.toNat
/-- The sum, from any sum on. -/
def more (s : Nat) (l : List Nat) : Nat := ones ^^^ crc (ones ^^^ s) l
theorem more_lt {s : Nat} (hs : s < 2 ^ 32) {l : List Nat} (h : ∀ c ∈ l, c < 256) : more s l < 2 ^ 32 := not_lt (crc_lt l h (not_lt hs))
theorem not_not (a : Nat) : ones ^^^ (ones ^^^ a) = a := by rw [← Nat.xor_assoc, Nat.xor_self, Nat.zero_xor]
theorem more_append (s : Nat) (l m : List Nat) : more (more s l) m = more s (l ++ m) := by
  unfold more
  rw [not_not, crc_append]
theorem xor5 (a b c d : Nat) : (a ^^^ b) ^^^ (c ^^^ (a ^^^ d)) = c ^^^ (b ^^^ d) := by
  apply Nat.eq_of_testBit_eq
  intro i
  simp only [Nat.testBit_xor]
  generalize a.testBit i = p
  generalize b.testBit i = q
  generalize c.testBit i = r
  generalize d.testBit i = s
  cases p <;> cases q <;> cases r <;> cases s <;> rfl
/-- The sum of a row, by the sums of its parts. -/
theorem join_more (s : Nat) (l m : List Nat) (hm : ∀ c ∈ m, c < 256) : it (8 * m.length) (more s l) ^^^ more 0 m = more (more s l) m := by
  unfold more
  rw [not_not, Nat.xor_zero, crc_num m ones hm, crc_num m (crc (ones ^^^ s) l) hm, it_xor, it_xor _ ones, it_xor _ (crc (ones ^^^ s) l)]
  exact xor5 _ _ _ _
theorem more_nil (s : Nat) : more s [] = s := not_not s
end Go.Proofs.YtckihppdjoianaaDoor.Crc
