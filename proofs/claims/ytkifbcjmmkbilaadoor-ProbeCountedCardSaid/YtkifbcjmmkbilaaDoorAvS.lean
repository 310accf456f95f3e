/- The program's structs as Lean structures, their cells as the interpreter's values; written by a program, proved by Lean. -/
import Derived.Test.YtkifbcjmmkbilaaDoorAvT
import Derived.Test.YtkifbcjmmkbilaaDoorAvB
set_option maxRecDepth 100000
set_option linter.unusedVariables false
namespace Go.Proofs.YtkifbcjmmkbilaaDoor.AvS
open Go Go.RowKit Go.Proofs.YtkifbcjmmkbilaaDoor.Av

/-- runtime.boundsError -/
structure runtime_boundsError where
  x : Int
  y : Int
  signed : Bool
  code : Int
deriving Inhabited
def eruntime_boundsError (x : runtime_boundsError) : List AV := [.v (.int .i64 x.x), .v (.int .i64 x.y), .v (.bool x.signed), .v (.int .u8 x.code)]
def kruntime_boundsError : Kv runtime_boundsError := Kv.iso (Kv.pair (Kv.int .i64) (Kv.pair (Kv.int .i64) (Kv.pair Kv.bool (Kv.int .u8)))) eruntime_boundsError
def Okruntime_boundsError (x : runtime_boundsError) : Prop := (fun n : Int => (Lit.int .i64 n).wf = true) x.x ∧ (fun n : Int => (Lit.int .i64 n).wf = true) x.y ∧ (fun _ : Bool => True) x.signed ∧ (fun n : Int => (Lit.int .u8 n).wf = true) x.code
theorem opensruntime_boundsError : Opens Tryd.prog kruntime_boundsError 8 Okruntime_boundsError :=
  opens_struct (fun x : runtime_boundsError => (x.x, x.y, x.signed, x.code)) (fun p => (⟨p.1, p.2.1, p.2.2.1, p.2.2.2⟩ : runtime_boundsError)) (fun _ => rfl) (fun _ => rfl) Tryd.underlying8 (by kernel_rfl) (opensL_cons (opens_int Tryd.underlying2) (by kernel_rfl) (opensL_cons (opens_int Tryd.underlying3) (by kernel_rfl) (opensL_cons (opens_bool Tryd.underlying4) (by kernel_rfl) (opensL_one (opens_int Tryd.underlying6) (by kernel_rfl)))))

/-- flotilla/api.Probe -/
structure Probe where
  Good : Int
  Bad : Int
  Ready : Bool
deriving Inhabited
def eProbe (x : Probe) : List AV := [.v (.int .i64 x.Good), .v (.int .i64 x.Bad), .v (.bool x.Ready)]
def kProbe : Kv Probe := Kv.iso (Kv.pair (Kv.int .i64) (Kv.pair (Kv.int .i64) Kv.bool)) eProbe
def OkProbe (x : Probe) : Prop := (fun n : Int => (Lit.int .i64 n).wf = true) x.Good ∧ (fun n : Int => (Lit.int .i64 n).wf = true) x.Bad ∧ (fun _ : Bool => True) x.Ready
theorem opensProbe : Opens Tryd.prog kProbe 23 OkProbe :=
  opens_struct (fun x : Probe => (x.Good, x.Bad, x.Ready)) (fun p => (⟨p.1, p.2.1, p.2.2⟩ : Probe)) (fun _ => rfl) (fun _ => rfl) Tryd.underlying23 (by kernel_rfl) (opensL_cons (opens_int Tryd.underlying3) (by kernel_rfl) (opensL_cons (opens_int Tryd.underlying3) (by kernel_rfl) (opensL_one (opens_bool Tryd.underlying4) (by kernel_rfl))))

/-- flotilla/flotillalaw22.Rates -/
structure law22_Rates where
  Rise : Int
  Fall : Int
deriving Inhabited
def elaw22_Rates (x : law22_Rates) : List AV := [.v (.int .i64 x.Rise), .v (.int .i64 x.Fall)]
def klaw22_Rates : Kv law22_Rates := Kv.iso (Kv.pair (Kv.int .i64) (Kv.int .i64)) elaw22_Rates
def Oklaw22_Rates (x : law22_Rates) : Prop := (fun n : Int => (Lit.int .i64 n).wf = true) x.Rise ∧ (fun n : Int => (Lit.int .i64 n).wf = true) x.Fall
theorem openslaw22_Rates : Opens Tryd.prog klaw22_Rates 26 Oklaw22_Rates :=
  opens_struct (fun x : law22_Rates => (x.Rise, x.Fall)) (fun p => (⟨p.1, p.2⟩ : law22_Rates)) (fun _ => rfl) (fun _ => rfl) Tryd.underlying26 (by kernel_rfl) (opensL_cons (opens_int Tryd.underlying3) (by kernel_rfl) (opensL_one (opens_int Tryd.underlying3) (by kernel_rfl)))

/-- flotilla/api.Fault -/
structure Fault where
  No : Int
  At : Int
deriving Inhabited
def eFault (x : Fault) : List AV := [.v (.int .i64 x.No), .v (.int .i64 x.At)]
def kFault : Kv Fault := Kv.iso (Kv.pair (Kv.int .i64) (Kv.int .i64)) eFault
def OkFault (x : Fault) : Prop := (fun n : Int => (Lit.int .i64 n).wf = true) x.No ∧ (fun n : Int => (Lit.int .i64 n).wf = true) x.At
theorem opensFault : Opens Tryd.prog kFault 49 OkFault :=
  opens_struct (fun x : Fault => (x.No, x.At)) (fun p => (⟨p.1, p.2⟩ : Fault)) (fun _ => rfl) (fun _ => rfl) Tryd.underlying49 (by kernel_rfl) (opensL_cons (opens_int Tryd.underlying44) (by kernel_rfl) (opensL_one (opens_int Tryd.underlying3) (by kernel_rfl)))

end Go.Proofs.YtkifbcjmmkbilaaDoor.AvS
