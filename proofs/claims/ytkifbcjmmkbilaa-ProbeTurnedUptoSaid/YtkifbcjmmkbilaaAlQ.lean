/- probe.All in plain words. -/
import Derived.Test.YtkifbcjmmkbilaaAgH
import Derived.Test.YtkifbcjmmkbilaaAvZ
set_option linter.unusedVariables false
set_option linter.unusedSimpArgs false
namespace Go.Proofs.Ytkifbcjmmkbilaa.Ag
open Go Go.RowKit Go.Proofs.Ytkifbcjmmkbilaa.Av Go.Proofs.Ytkifbcjmmkbilaa.AvT Go.Proofs.Ytkifbcjmmkbilaa.AvS
def allQ (p : Probe) (l : List Bool) (rise fall : Int) : Probe × Er := match Prb.mayB rise fall with
  | true => (⟨(Prb.allP (p.Good, p.Bad, p.Ready) l rise fall).1, (Prb.allP (p.Good, p.Bad, p.Ready) l rise fall).2.1, (Prb.allP (p.Good, p.Bad, p.Ready) l rise fall).2.2⟩, .ok)
  | false => (⟨0, 0, false⟩, .no 1)
theorem allM_eq (s : List Bool) (p : Probe) (l : List Bool) (rise fall : Int) (h : l.length ≤ 9223372036854775807) : allM [.agg (eProbe p), lstOf 1 eBool l s, .v (.int .i64 rise), .v (.int .i64 fall)] =
    some (.tup [.agg (eProbe (allQ p l rise fall).1), er (allQ p l rise fall).2], []) := by
  unfold allM lstOf eProbe
  simp only []
  rw [app_nil, bools_map eBool (fun b => rfl), Nat.ble_eq_true_of_le h]
  unfold allQ allA prbA prbC
  simp only []
  cases Prb.mayB rise fall <;> rfl
end Go.Proofs.Ytkifbcjmmkbilaa.Ag
