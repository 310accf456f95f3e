/- DigestKnown, by evaluation. -/
import Derived.Test.YtalkodandfjkmaaDoorAg1
set_option maxRecDepth 100000
namespace Go.Proofs.YtalkodandfjkmaaDoor.Ag
open Go Go.RowKit Go.Proofs.YtalkodandfjkmaaDoor.Av Go.Proofs.YtalkodandfjkmaaDoor.AvT Go.Proofs.YtalkodandfjkmaaDoor.AvS
theorem pure_DigestKnown : law05_DigestKnown = some true := by kernel_rfl
end Go.Proofs.YtalkodandfjkmaaDoor.Ag
