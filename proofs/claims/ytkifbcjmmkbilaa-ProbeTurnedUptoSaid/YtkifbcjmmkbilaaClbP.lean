/- slices.Clone of bools in plain words. -/
import Derived.Test.YtkifbcjmmkbilaaClb
import Derived.Test.YtkifbcjmmkbilaaAvS
import Derived.Test.YtkifbcjmmkbilaaAvY
namespace Go.Proofs.Ytkifbcjmmkbilaa.Ag
open Go Go.RowKit Go.Proofs.Ytkifbcjmmkbilaa.Av Go.Proofs.Ytkifbcjmmkbilaa.AvS
theorem clobM_eq (p l : List Bool) (h : l.length ≤ 140737488355328 ∧ l.length ≤ maxLen) : clobM [lstOf 1 eBool l p] = some (.own 0 0, [.grow 4 1 0 true (l.map eBool)]) := by
  unfold clobM lstOf
  simp only []
  rw [app_nil, Nat.ble_eq_true_of_le (show l.length * 1 ≤ _ by omega), Nat.ble_eq_true_of_le h.2]
end Go.Proofs.Ytkifbcjmmkbilaa.Ag
