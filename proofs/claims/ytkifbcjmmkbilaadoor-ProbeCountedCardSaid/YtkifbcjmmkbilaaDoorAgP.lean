/- What Plain and Num answer of an error. -/
import Derived.Test.YtkifbcjmmkbilaaDoorAgH
namespace Go.Proofs.YtkifbcjmmkbilaaDoor.Ag
open Go Go.RowKit Go.Proofs.YtkifbcjmmkbilaaDoor.Av
theorem plainM_eq (e : Er) (n : Int) : plainM [er e, .v (.int .i64 n)] = some (.v (.bool (plainQ e n)), []) := by
  cases e <;> rfl
theorem numM_eq (e : Er) : numM [er e] = some (.v (.int .i64 (numQ e)), []) := by
  cases e <;> rfl
end Go.Proofs.YtkifbcjmmkbilaaDoor.Ag
