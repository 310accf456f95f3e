/- The functions of package digest in plain words. -/
import Derived.Test.YtalkodandfjkmaaDoorAgP
import Derived.Test.YtalkodandfjkmaaDoorTmP
set_option linter.unusedVariables false
set_option linter.unusedSimpArgs false
namespace Go.Proofs.YtalkodandfjkmaaDoor.Ag
open Go Go.RowKit Go.Proofs.YtalkodandfjkmaaDoor.Av Go.Proofs.YtalkodandfjkmaaDoor.AvT Go.Proofs.YtalkodandfjkmaaDoor.AvS Go.Proofs.YtalkodandfjkmaaDoorW.PrintWords Go.Proofs.YtalkodandfjkmaaDoor.Print
theorem ofM_eq (p l : List Int) (h : Nat.ble l.length 9223372036854775807 = true) : ofM [lstOf 1 (eInt .u8) l p] = some (.v (.int .u64 (ofQ l)), []) := by
  unfold ofM lstOf
  simp only []
  rw [app_nil, u8s_map (eInt .u8) (fun b => rfl), h]
def paO (o : Option (Int × Option Int)) : Int × Er := match o with
  | some (r, none) => (r, .ok)
  | some (r, some n) => (r, .no n)
  | none => (0, .ok)
def okPa (s : ByteArray) : Bool := (digest_Parse.f 60 s).isSome
def paQ (s : ByteArray) : Int × Er := paO (digest_Parse.f 60 s)
theorem paM_eq (s : ByteArray) (h : okPa s = true) : paM [.v (.string s)] = some (.v (.tuple #[.int .u64 (paQ s).1, eV (paQ s).2]), []) := by
  unfold okPa at h
  unfold paM paQ
  simp only []
  cases hp : digest_Parse.f 60 s with
  | none => rw [hp] at h; cases h
  | some x =>
    obtain ⟨r, e⟩ := x
    cases e <;> rfl
end Go.Proofs.YtalkodandfjkmaaDoor.Ag
