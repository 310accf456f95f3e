/- What Place answers of an error. -/
import Derived.Test.YtcchccdbkpidpaaDoorAgP
import Derived.Test.YtcchccdbkpidpaaDoorPlc
namespace Go.Proofs.YtcchccdbkpidpaaDoor.Ag
open Go Go.RowKit Go.Proofs.YtcchccdbkpidpaaDoor.Av
theorem placeM_eq (e : Er) : placeM [er e] = some (.v (.tuple #[.int .i64 (placeQ e).1, .bool (placeQ e).2]), []) := by
  cases e <;> rfl
end Go.Proofs.YtcchccdbkpidpaaDoor.Ag
