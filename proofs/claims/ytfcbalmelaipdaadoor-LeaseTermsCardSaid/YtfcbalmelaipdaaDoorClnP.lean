/- slices.Clone of labels in plain words. -/
import Derived.Test.YtfcbalmelaipdaaDoorCln
import Derived.Test.YtfcbalmelaipdaaDoorAvS
import Derived.Test.YtfcbalmelaipdaaDoorAvY
namespace Go.Proofs.YtfcbalmelaipdaaDoor.Ag
open Go Go.RowKit Go.Proofs.YtfcbalmelaipdaaDoor.Av Go.Proofs.YtfcbalmelaipdaaDoor.AvS
theorem cloneM_eq (p l : List Label) (h : l.length * 32 ≤ 140737488355328 ∧ l.length ≤ maxLen) : cloneM [lstOf 2 eLabel l p] = some (.own 0 0, [.grow 65 2 0 true (l.map eLabel)]) := by
  unfold cloneM lstOf
  simp only []
  rw [app_nil, Nat.ble_eq_true_of_le h.1, Nat.ble_eq_true_of_le h.2]
end Go.Proofs.YtfcbalmelaipdaaDoor.Ag
