/- digest.Template in plain words. -/
import Derived.Test.YtnoaglgjhgnnfaaAgH
import Derived.Test.YtnoaglgjhgnnfaaAvZ
set_option linter.unusedVariables false
set_option linter.unusedSimpArgs false
namespace Go.Proofs.Ytnoaglgjhgnnfaa.Ag
open Go Go.RowKit Go.Proofs.Ytnoaglgjhgnnfaa.Av Go.Proofs.Ytnoaglgjhgnnfaa.AvT Go.Proofs.Ytnoaglgjhgnnfaa.AvS
def okTm (o : Object) : Prop := okTmL o.Image (o.Labels.map fun x => (x.Key, x.Value)) = true ∧ Nat.ble o.Labels.length 9223372036854775807 = true
instance (o : Object) : Decidable (okTm o) := inferInstanceAs (Decidable (_ ∧ _))
def tmQ (o : Object) : Int := tmV o.Image o.Need.Cpu o.Need.Mem o.Rise o.Fall (o.Labels.map fun x => (x.Key, x.Value))
theorem tmM_eq (p : List Label) (o : Object) (h : okTm o) : tmM [.agg (gObject p o)] = some (.v (.int .u64 (tmQ o)), []) := by
  unfold tmM gObject lstOf
  simp only []
  rw [app_nil, lbs_map eLabel (fun x : Label => (x.Key, x.Value)) (fun b => rfl), h.2]
  simp only []
  rw [h.1]
  rfl
end Go.Proofs.Ytnoaglgjhgnnfaa.Ag
