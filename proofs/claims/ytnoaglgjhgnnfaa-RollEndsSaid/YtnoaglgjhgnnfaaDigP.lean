/- The digest of bytes in plain numbers: one byte's step can be undone, so what differs in one byte stays apart. -/
import Derived.WalkKit
import Derived.Laws.BitsAllLaws
import Derived.Test.YtnoaglgjhgnnfaaWv
namespace Go.Proofs.Ytnoaglgjhgnnfaa.Dig
open Go.RowKit Go.Proofs.YtnoaglgjhgnnfaaW.PrintWords

/-- One byte more. -/
def fnvStep (h c : Int) : Int := IntKind.u64.wrap (Go.bits .xor .u64 h (IntKind.u64.wrap c) * 1099511628211)
/-- Some bytes more. -/
def fnvL (h : Int) (l : List Int) : Int := l.foldl fnvStep h
theorem fnv_snoc (h : Int) (l : List Int) (i : Nat) (hi : i < l.length) : fnvL h (l.take (i + 1)) = fnvStep (fnvL h (l.take i)) (rd l i) := by
  rw [List.take_succ_eq_append_getElem hi]
  unfold fnvL
  rw [List.foldl_append]
  simp [rd, hi]
theorem fnv_append (h : Int) (a b : List Int) : fnvL h (a ++ b) = fnvL (fnvL h a) b := by
  unfold fnvL
  rw [List.foldl_append]

end Go.Proofs.Ytnoaglgjhgnnfaa.Dig
