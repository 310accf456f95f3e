/- The program's structs as Lean structures, their cells as the interpreter's values; written by a program, proved by Lean. -/
import Derived.Test.YtkifbcjmmkbilaaAvT
import Derived.Test.YtkifbcjmmkbilaaAvB
set_option maxRecDepth 100000
set_option linter.unusedVariables false
namespace Go.Proofs.Ytkifbcjmmkbilaa.AvS
open Go Go.RowKit Go.Proofs.Ytkifbcjmmkbilaa.Av

/-- flotilla/api.Probe -/
structure Probe where
  Good : Int
  Bad : Int
  Ready : Bool
deriving Inhabited
def eProbe (x : Probe) : List AV := [.v (.int .i64 x.Good), .v (.int .i64 x.Bad), .v (.bool x.Ready)]
def kProbe : Kv Probe := Kv.iso (Kv.pair (Kv.int .i64) (Kv.pair (Kv.int .i64) Kv.bool)) eProbe
def OkProbe (x : Probe) : Prop := (fun n : Int => (Lit.int .i64 n).wf = true) x.Good ∧ (fun n : Int => (Lit.int .i64 n).wf = true) x.Bad ∧ (fun _ : Bool => True) x.Ready
theorem opensProbe : Opens Try.prog kProbe 23 OkProbe :=
  opens_struct (fun x : Probe => (x.Good, x.Bad, x.Ready)) (fun p => (⟨p.1, p.2.1, p.2.2⟩ : Probe)) (fun _ => rfl) (fun _ => rfl) Try.underlying23 (by kernel_rfl) (opensL_cons (opens_int Try.underlying3) (by kernel_rfl) (opensL_cons (opens_int Try.underlying3) (by kernel_rfl) (opensL_one (opens_bool Try.underlying4) (by kernel_rfl))))

/-- flotilla/flotillalaw22.Rates -/
structure law22_Rates where
  Rise : Int
  Fall : Int
deriving Inhabited
def elaw22_Rates (x : law22_Rates) : List AV := [.v (.int .i64 x.Rise), .v (.int .i64 x.Fall)]
def klaw22_Rates : Kv law22_Rates := Kv.iso (Kv.pair (Kv.int .i64) (Kv.int .i64)) elaw22_Rates
def Oklaw22_Rates (x : law22_Rates) : Prop := (fun n : Int => (Lit.int .i64 n).wf = true) x.Rise ∧ (fun n : Int => (Lit.int .i64 n).wf = true) x.Fall
theorem openslaw22_Rates : Opens Try.prog klaw22_Rates 26 Oklaw22_Rates :=
  opens_struct (fun x : law22_Rates => (x.Rise, x.Fall)) (fun p => (⟨p.1, p.2⟩ : law22_Rates)) (fun _ => rfl) (fun _ => rfl) Try.underlying26 (by kernel_rfl) (opensL_cons (opens_int Try.underlying3) (by kernel_rfl) (opensL_one (opens_int Try.underlying3) (by kernel_rfl)))

end Go.Proofs.Ytkifbcjmmkbilaa.AvS
