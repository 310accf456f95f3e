/- slices.Clone of labels in plain words. -/
import Derived.Test.YtnoaglgjhgnnfaaCln
import Derived.Test.YtnoaglgjhgnnfaaAvS
import Derived.Test.YtnoaglgjhgnnfaaAvY
namespace Go.Proofs.Ytnoaglgjhgnnfaa.Ag
open Go Go.RowKit Go.Proofs.Ytnoaglgjhgnnfaa.Av Go.Proofs.Ytnoaglgjhgnnfaa.AvS
theorem cloneM_eq (p l : List Label) (h : l.length * 32 ≤ 140737488355328 ∧ l.length ≤ maxLen) : cloneM [lstOf 2 eLabel l p] = some (.own 0 0, [.grow 116 2 0 true (l.map eLabel)]) := by
  unfold cloneM lstOf
  simp only []
  rw [app_nil, Nat.ble_eq_true_of_le h.1, Nat.ble_eq_true_of_le h.2]
end Go.Proofs.Ytnoaglgjhgnnfaa.Ag
