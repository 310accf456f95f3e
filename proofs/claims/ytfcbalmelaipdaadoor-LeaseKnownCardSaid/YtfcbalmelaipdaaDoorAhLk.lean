/- LeaseKnown: the chapter's examples come out. -/
import Derived.Test.YtfcbalmelaipdaaDoorAg2
set_option maxRecDepth 100000
namespace Go.Proofs.YtfcbalmelaipdaaDoor.Ag
open Go Go.RowKit Go.Proofs.YtfcbalmelaipdaaDoor.Av Go.Proofs.YtfcbalmelaipdaaDoor.AvS
theorem pure_LeaseKnown : law17_LeaseKnown = some true := by kernel_rfl
theorem pure_works : law17_works = some true := by kernel_rfl
end Go.Proofs.YtfcbalmelaipdaaDoor.Ag
