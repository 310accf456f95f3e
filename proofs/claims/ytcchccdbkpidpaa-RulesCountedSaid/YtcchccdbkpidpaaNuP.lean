/- What Num answers of an error. -/
import Derived.Test.YtcchccdbkpidpaaAgH
namespace Go.Proofs.Ytcchccdbkpidpaa.Ag
open Go Go.RowKit Go.Proofs.Ytcchccdbkpidpaa.Av
def flatE : Er → Bool
  | .at _ _ => false
  | _ => true
def numQ : Er → Int
  | .no n => Err.numOf n
  | _ => 0
theorem numM_eq (e : Er) (h : flatE e = true) : numM [er e] = some (.v (.int .i64 (numQ e)), []) := by
  cases e with
  | ok => rfl
  | no n => rfl
  | «at» n i => cases h
end Go.Proofs.Ytcchccdbkpidpaa.Ag
