/- What Plain and Num answer of an error. -/
import Derived.Test.YtalkodandfjkmaaDoorAgH
namespace Go.Proofs.YtalkodandfjkmaaDoor.Ag
open Go Go.RowKit Go.Proofs.YtalkodandfjkmaaDoor.Av
theorem plainM_eq (e : Er) (n : Int) : plainM [er e, .v (.int .i64 n)] = some (.v (.bool (plainQ e n)), []) := by
  cases e <;> rfl
theorem numM_eq (e : Er) : numM [er e] = some (.v (.int .i64 (numQ e)), []) := by
  cases e <;> rfl
end Go.Proofs.YtalkodandfjkmaaDoor.Ag
