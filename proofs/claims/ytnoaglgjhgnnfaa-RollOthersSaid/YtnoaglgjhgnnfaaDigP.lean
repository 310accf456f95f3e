/- The digest of bytes in plain numbers: one byte's step can be undone, so what differs in one byte stays apart. -/
import Derived.WalkKit
import Derived.Laws.BitsAllLaws
import Derived.Test.YtnoaglgjhgnnfaaWv
namespace Go.Proofs.Ytnoaglgjhgnnfaa.Dig
open Go.RowKit Go.Proofs.YtnoaglgjhgnnfaaW.PrintWords

/-- One byte more. -/
def fnvStep (h c : Int) : Int := IntKind.u64.wrap (Go.bits .xor .u64 h (IntKind.u64.wrap c) * 1099511628211)
/-- Some bytes more. -/
def fnvL (h : Int) (l : List Int) : Int := l.foldl fnvStep h
theorem fnv_snoc (h : Int) (l : List Int) (i : Nat) (hi : i < l.length) : fnvL h (l.take (i + 1)) = fnvStep (fnvL h (l.take i)) (rd l i) := by
  rw [List.take_succ_eq_append_getElem hi]
  unfold fnvL
  rw [List.foldl_append]
  simp [rd, hi]
theorem fnv_append (h : Int) (a b : List Int) : fnvL h (a ++ b) = fnvL (fnvL h a) b := by
  unfold fnvL
  rw [List.foldl_append]

def U64 (h : Int) : Prop := 0 ≤ h ∧ h < 18446744073709551616
theorem bits_xor_u64 (x y : Int) : Go.bits .xor .u64 x y = ((BitVec.ofInt 64 x ^^^ BitVec.ofInt 64 y).toNat : Int) := by
  show IntKind.u64.wrap ((BitVec.ofInt 64 x ^^^ BitVec.ofInt 64 y).toNat : Int) = _
  have := (BitVec.ofInt 64 x ^^^ BitVec.ofInt 64 y).isLt
  rw [IntKind.wrap_u64]
  omega
theorem step_bv (h c : Int) : fnvStep h c = (((BitVec.ofInt 64 h ^^^ BitVec.ofInt 64 c) * 1099511628211#64).toNat : Int) := by
  unfold fnvStep
  have e : BitVec.ofInt 64 (IntKind.u64.wrap c) = BitVec.ofInt 64 c := by
    apply BitVec.eq_of_toNat_eq
    rw [BitVec.toNat_ofInt, BitVec.toNat_ofInt, IntKind.wrap_u64]
    simp
  rw [bits_xor_u64, e, BitVec.toNat_mul, IntKind.wrap_u64]
  simp
theorem step_u64 (h c : Int) : U64 (fnvStep h c) := by
  rw [step_bv]
  have := ((BitVec.ofInt 64 h ^^^ BitVec.ofInt 64 c) * 1099511628211#64).isLt
  unfold U64
  omega
theorem mul_inj (x y : BitVec 64) (h : x * 1099511628211#64 = y * 1099511628211#64) : x = y := by
  have e : (1099511628211#64 : BitVec 64) * 14886173955864302971#64 = 1#64 := by decide
  have h2 := congrArg (· * 14886173955864302971#64) h
  simp only [BitVec.mul_assoc, e, BitVec.mul_one] at h2
  exact h2
theorem ofInt_inj {x y : Int} (hx : U64 x) (hy : U64 y) (h : BitVec.ofInt 64 x = BitVec.ofInt 64 y) : x = y := by
  have h2 := congrArg BitVec.toNat h
  rw [BitVec.toNat_ofInt, BitVec.toNat_ofInt] at h2
  unfold U64 at hx hy
  omega
theorem xor_cancel_right {a b c : BitVec 64} (h : a ^^^ c = b ^^^ c) : a = b := by
  have h2 := congrArg (· ^^^ c) h
  simpa [BitVec.xor_assoc] using h2
theorem xor_cancel_left {a b c : BitVec 64} (h : c ^^^ a = c ^^^ b) : a = b := by
  rw [BitVec.xor_comm c a, BitVec.xor_comm c b] at h
  exact xor_cancel_right h
theorem step_inj_left {h h' c : Int} (hh : U64 h) (hh' : U64 h') (e : fnvStep h c = fnvStep h' c) : h = h' := by
  rw [step_bv, step_bv] at e
  exact ofInt_inj hh hh' (xor_cancel_right (mul_inj _ _ (BitVec.eq_of_toNat_eq (by exact_mod_cast e))))
theorem step_inj_right {h c c' : Int} (hc : U64 c) (hc' : U64 c') (e : fnvStep h c = fnvStep h c') : c = c' := by
  rw [step_bv, step_bv] at e
  exact ofInt_inj hc hc' (xor_cancel_left (mul_inj _ _ (BitVec.eq_of_toNat_eq (by exact_mod_cast e))))
theorem fnv_u64 {h : Int} (hh : U64 h) (l : List Int) : U64 (fnvL h l) := by
  induction l generalizing h with
  | nil => exact hh
  | cons c l ih => exact ih (step_u64 h c)
theorem fnv_inj {h h' : Int} (hh : U64 h) (hh' : U64 h') (l : List Int) (e : fnvL h l = fnvL h' l) : h = h' := by
  induction l generalizing h h' with
  | nil => exact e
  | cons c l ih => exact step_inj_left hh hh' (ih (step_u64 h c) (step_u64 h' c) e)
/-- A row with one byte turned has the same digest just if the byte is the same. -/
theorem fnv_set {h : Int} (l : List Int) (i : Nat) (hi : i < l.length) (v : Int) (hv : U64 v) (hl : U64 (l[i])) : (fnvL h l = fnvL h (l.set i v)) ↔ l[i] = v := by
  have e1 : l = l.take i ++ l[i] :: l.drop (i + 1) := by simp
  have e2 : l.set i v = l.take i ++ v :: l.drop (i + 1) := by rw [List.set_eq_take_append_cons_drop, if_pos hi]
  constructor
  · intro e
    rw [e2] at e
    conv at e => lhs; rw [e1]
    rw [fnv_append, fnv_append] at e
    have := fnv_inj (step_u64 _ _) (step_u64 _ _) (l.drop (i + 1)) e
    exact step_inj_right hl hv this
  · intro e
    rw [← e, List.set_getElem_self]
theorem fnv_set_more {h : Int} (hh : U64 h) (l : List Int) (i : Nat) (hi : i < l.length) (v : Int) (hv : U64 v) (hl : U64 (l[i])) (m : List Int) : (fnvL h (l ++ m) = fnvL h (l.set i v ++ m)) ↔ l[i] = v := by
  rw [fnv_append, fnv_append]
  constructor
  · intro e
    exact (fnv_set l i hi v hv hl).1 (fnv_inj (fnv_u64 hh l) (fnv_u64 hh _) m e)
  · intro e
    rw [← (fnv_set l i hi v hv hl).2 e]
end Go.Proofs.Ytnoaglgjhgnnfaa.Dig
