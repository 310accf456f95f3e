/- The program's structs as Lean structures, their cells as the interpreter's values; written by a program, proved by Lean. -/
import Derived.Test.YtalkodandfjkmaaDoorAvT
import Derived.Test.YtalkodandfjkmaaDoorMg1
set_option maxRecDepth 100000
set_option linter.unusedVariables false
namespace Go.Proofs.YtalkodandfjkmaaDoor.AvS
open Go Go.RowKit Go.Proofs.YtalkodandfjkmaaDoor.Av

/-- runtime.boundsError -/
structure runtime_boundsError where
  x : Int
  y : Int
  signed : Bool
  code : Int
deriving Inhabited
def eruntime_boundsError (x : runtime_boundsError) : List AV := [.v (.int .i64 x.x), .v (.int .i64 x.y), .v (.bool x.signed), .v (.int .u8 x.code)]
def kruntime_boundsError : Kv runtime_boundsError := Kv.iso (Kv.pair (Kv.int .i64) (Kv.pair (Kv.int .i64) (Kv.pair Kv.bool (Kv.int .u8)))) eruntime_boundsError
def Okruntime_boundsError (x : runtime_boundsError) : Prop := (fun n : Int => (Lit.int .i64 n).wf = true) x.x ∧ (fun n : Int => (Lit.int .i64 n).wf = true) x.y ∧ (fun _ : Bool => True) x.signed ∧ (fun n : Int => (Lit.int .u8 n).wf = true) x.code
theorem opensruntime_boundsError : Opens Tryd.prog kruntime_boundsError 8 Okruntime_boundsError :=
  opens_struct (fun x : runtime_boundsError => (x.x, x.y, x.signed, x.code)) (fun p => (⟨p.1, p.2.1, p.2.2.1, p.2.2.2⟩ : runtime_boundsError)) (fun _ => rfl) (fun _ => rfl) Tryd.underlying8 (by kernel_rfl) (opensL_cons (opens_int Tryd.underlying2) (by kernel_rfl) (opensL_cons (opens_int Tryd.underlying3) (by kernel_rfl) (opensL_cons (opens_bool Tryd.underlying4) (by kernel_rfl) (opensL_one (opens_int Tryd.underlying6) (by kernel_rfl)))))

/-- flotilla/api.Amount -/
structure Amount where
  Cpu : Int
  Mem : Int
deriving Inhabited
def eAmount (x : Amount) : List AV := [.v (.int .i64 x.Cpu), .v (.int .i64 x.Mem)]
def kAmount : Kv Amount := Kv.iso (Kv.pair (Kv.int .i64) (Kv.int .i64)) eAmount
def OkAmount (x : Amount) : Prop := (fun n : Int => (Lit.int .i64 n).wf = true) x.Cpu ∧ (fun n : Int => (Lit.int .i64 n).wf = true) x.Mem
theorem opensAmount : Opens Tryd.prog kAmount 37 OkAmount :=
  opens_struct (fun x : Amount => (x.Cpu, x.Mem)) (fun p => (⟨p.1, p.2⟩ : Amount)) (fun _ => rfl) (fun _ => rfl) Tryd.underlying37 (by kernel_rfl) (opensL_cons (opens_int Tryd.underlying3) (by kernel_rfl) (opensL_one (opens_int Tryd.underlying3) (by kernel_rfl)))

/-- flotilla/api.Label -/
structure Label where
  Key : ByteArray
  Value : ByteArray
deriving Inhabited
def eLabel (x : Label) : List AV := [.v (.string x.Key), .v (.string x.Value)]
def kLabel : Kv Label := Kv.iso (Kv.pair Kv.string Kv.string) eLabel
def OkLabel (x : Label) : Prop := (fun s : ByteArray => s.size ≤ 140737488351232) x.Key ∧ (fun s : ByteArray => s.size ≤ 140737488351232) x.Value
theorem opensLabel : Opens Tryd.prog kLabel 39 OkLabel :=
  opens_struct (fun x : Label => (x.Key, x.Value)) (fun p => (⟨p.1, p.2⟩ : Label)) (fun _ => rfl) (fun _ => rfl) Tryd.underlying39 (by kernel_rfl) (opensL_cons (opens_string Tryd.underlying9) (by kernel_rfl) (opensL_one (opens_string Tryd.underlying9) (by kernel_rfl)))

/-- flotilla/api.Object -/
structure Object where
  Kind : Int
  Name : ByteArray
  Version : Int
  Born : Int
  Labels : List Label
  Room : Amount
  Cordoned : Bool
  Draining : Bool
  Lost : Bool
  Beat : Int
  Deploy : ByteArray
  Set : ByteArray
  Node : ByteArray
  Phase : Int
  Ready : Bool
  Ending : Bool
  Need : Amount
  Image : ByteArray
  Rise : Int
  Fall : Int
  Count : Int
  Surge : Int
  Slack : Int
  Paused : Bool
  Hash : Int
  Select : List Label
  Least : Int
  Holder : ByteArray
  Term : Int
  Until : Int
deriving Inhabited
def eObject (x : Object) : List AV := [.v (.int .i64 x.Kind), .v (.string x.Name), .v (.int .i64 x.Version), .v (.int .i64 x.Born), lstOf 2 eLabel x.Labels [], .v (.int .i64 x.Room.Cpu), .v (.int .i64 x.Room.Mem), .v (.bool x.Cordoned), .v (.bool x.Draining), .v (.bool x.Lost), .v (.int .i64 x.Beat), .v (.string x.Deploy), .v (.string x.Set), .v (.string x.Node), .v (.int .i64 x.Phase), .v (.bool x.Ready), .v (.bool x.Ending), .v (.int .i64 x.Need.Cpu), .v (.int .i64 x.Need.Mem), .v (.string x.Image), .v (.int .i64 x.Rise), .v (.int .i64 x.Fall), .v (.int .i64 x.Count), .v (.int .i64 x.Surge), .v (.int .i64 x.Slack), .v (.bool x.Paused), .v (.int .u64 x.Hash), lstOf 2 eLabel x.Select [], .v (.int .i64 x.Least), .v (.string x.Holder), .v (.int .i64 x.Term), .v (.int .i64 x.Until)]
def kObject : Kv Object := Kv.iso (Kv.pair (Kv.int .i64) (Kv.pair Kv.string (Kv.pair (Kv.int .i64) (Kv.pair (Kv.int .i64) (Kv.pair (Kv.slice kLabel) (Kv.pair kAmount (Kv.pair Kv.bool (Kv.pair Kv.bool (Kv.pair Kv.bool (Kv.pair (Kv.int .i64) (Kv.pair Kv.string (Kv.pair Kv.string (Kv.pair Kv.string (Kv.pair (Kv.int .i64) (Kv.pair Kv.bool (Kv.pair Kv.bool (Kv.pair kAmount (Kv.pair Kv.string (Kv.pair (Kv.int .i64) (Kv.pair (Kv.int .i64) (Kv.pair (Kv.int .i64) (Kv.pair (Kv.int .i64) (Kv.pair (Kv.int .i64) (Kv.pair Kv.bool (Kv.pair (Kv.int .u64) (Kv.pair (Kv.slice kLabel) (Kv.pair (Kv.int .i64) (Kv.pair Kv.string (Kv.pair (Kv.int .i64) (Kv.int .i64)))))))))))))))))))))))))))))) eObject
def OkObject (x : Object) : Prop := (fun n : Int => (Lit.int .i64 n).wf = true) x.Kind ∧ (fun s : ByteArray => s.size ≤ 140737488351232) x.Name ∧ (fun n : Int => (Lit.int .i64 n).wf = true) x.Version ∧ (fun n : Int => (Lit.int .i64 n).wf = true) x.Born ∧ (fun xs : List Label => xs.length * 32 ≤ 140737488351232 ∧ xs.length ≤ 9223372036854775807 ∧ ∀ x ∈ xs, OkLabel x) x.Labels ∧ OkAmount x.Room ∧ (fun _ : Bool => True) x.Cordoned ∧ (fun _ : Bool => True) x.Draining ∧ (fun _ : Bool => True) x.Lost ∧ (fun n : Int => (Lit.int .i64 n).wf = true) x.Beat ∧ (fun s : ByteArray => s.size ≤ 140737488351232) x.Deploy ∧ (fun s : ByteArray => s.size ≤ 140737488351232) x.Set ∧ (fun s : ByteArray => s.size ≤ 140737488351232) x.Node ∧ (fun n : Int => (Lit.int .i64 n).wf = true) x.Phase ∧ (fun _ : Bool => True) x.Ready ∧ (fun _ : Bool => True) x.Ending ∧ OkAmount x.Need ∧ (fun s : ByteArray => s.size ≤ 140737488351232) x.Image ∧ (fun n : Int => (Lit.int .i64 n).wf = true) x.Rise ∧ (fun n : Int => (Lit.int .i64 n).wf = true) x.Fall ∧ (fun n : Int => (Lit.int .i64 n).wf = true) x.Count ∧ (fun n : Int => (Lit.int .i64 n).wf = true) x.Surge ∧ (fun n : Int => (Lit.int .i64 n).wf = true) x.Slack ∧ (fun _ : Bool => True) x.Paused ∧ (fun n : Int => (Lit.int .u64 n).wf = true) x.Hash ∧ (fun xs : List Label => xs.length * 32 ≤ 140737488351232 ∧ xs.length ≤ 9223372036854775807 ∧ ∀ x ∈ xs, OkLabel x) x.Select ∧ (fun n : Int => (Lit.int .i64 n).wf = true) x.Least ∧ (fun s : ByteArray => s.size ≤ 140737488351232) x.Holder ∧ (fun n : Int => (Lit.int .i64 n).wf = true) x.Term ∧ (fun n : Int => (Lit.int .i64 n).wf = true) x.Until
theorem opensObject : Opens Tryd.prog kObject 42 OkObject :=
  opens_struct (fun x : Object => (x.Kind, x.Name, x.Version, x.Born, x.Labels, x.Room, x.Cordoned, x.Draining, x.Lost, x.Beat, x.Deploy, x.Set, x.Node, x.Phase, x.Ready, x.Ending, x.Need, x.Image, x.Rise, x.Fall, x.Count, x.Surge, x.Slack, x.Paused, x.Hash, x.Select, x.Least, x.Holder, x.Term, x.Until)) (fun p => (⟨p.1, p.2.1, p.2.2.1, p.2.2.2.1, p.2.2.2.2.1, p.2.2.2.2.2.1, p.2.2.2.2.2.2.1, p.2.2.2.2.2.2.2.1, p.2.2.2.2.2.2.2.2.1, p.2.2.2.2.2.2.2.2.2.1, p.2.2.2.2.2.2.2.2.2.2.1, p.2.2.2.2.2.2.2.2.2.2.2.1, p.2.2.2.2.2.2.2.2.2.2.2.2.1, p.2.2.2.2.2.2.2.2.2.2.2.2.2.1, p.2.2.2.2.2.2.2.2.2.2.2.2.2.2.1, p.2.2.2.2.2.2.2.2.2.2.2.2.2.2.2.1, p.2.2.2.2.2.2.2.2.2.2.2.2.2.2.2.2.1, p.2.2.2.2.2.2.2.2.2.2.2.2.2.2.2.2.2.1, p.2.2.2.2.2.2.2.2.2.2.2.2.2.2.2.2.2.2.1, p.2.2.2.2.2.2.2.2.2.2.2.2.2.2.2.2.2.2.2.1, p.2.2.2.2.2.2.2.2.2.2.2.2.2.2.2.2.2.2.2.2.1, p.2.2.2.2.2.2.2.2.2.2.2.2.2.2.2.2.2.2.2.2.2.1, p.2.2.2.2.2.2.2.2.2.2.2.2.2.2.2.2.2.2.2.2.2.2.1, p.2.2.2.2.2.2.2.2.2.2.2.2.2.2.2.2.2.2.2.2.2.2.2.1, p.2.2.2.2.2.2.2.2.2.2.2.2.2.2.2.2.2.2.2.2.2.2.2.2.1, p.2.2.2.2.2.2.2.2.2.2.2.2.2.2.2.2.2.2.2.2.2.2.2.2.2.1, p.2.2.2.2.2.2.2.2.2.2.2.2.2.2.2.2.2.2.2.2.2.2.2.2.2.2.1, p.2.2.2.2.2.2.2.2.2.2.2.2.2.2.2.2.2.2.2.2.2.2.2.2.2.2.2.1, p.2.2.2.2.2.2.2.2.2.2.2.2.2.2.2.2.2.2.2.2.2.2.2.2.2.2.2.2.1, p.2.2.2.2.2.2.2.2.2.2.2.2.2.2.2.2.2.2.2.2.2.2.2.2.2.2.2.2.2⟩ : Object)) (fun _ => rfl) (fun _ => rfl) Tryd.underlying42 (by kernel_rfl) (opensL_cons (opens_int Tryd.underlying3) (by kernel_rfl) (opensL_cons (opens_string Tryd.underlying9) (by kernel_rfl) (opensL_cons (opens_int Tryd.underlying3) (by kernel_rfl) (opensL_cons (opens_int Tryd.underlying3) (by kernel_rfl) (opensL_cons (opens_slice (d := kLabel) 32 Tryd.underlying40 (by kernel_rfl) (by kernel_rfl) opensLabel) (by kernel_rfl) (opensL_cons opensAmount (by kernel_rfl) (opensL_cons (opens_bool Tryd.underlying4) (by kernel_rfl) (opensL_cons (opens_bool Tryd.underlying4) (by kernel_rfl) (opensL_cons (opens_bool Tryd.underlying4) (by kernel_rfl) (opensL_cons (opens_int Tryd.underlying3) (by kernel_rfl) (opensL_cons (opens_string Tryd.underlying9) (by kernel_rfl) (opensL_cons (opens_string Tryd.underlying9) (by kernel_rfl) (opensL_cons (opens_string Tryd.underlying9) (by kernel_rfl) (opensL_cons (opens_int Tryd.underlying3) (by kernel_rfl) (opensL_cons (opens_bool Tryd.underlying4) (by kernel_rfl) (opensL_cons (opens_bool Tryd.underlying4) (by kernel_rfl) (opensL_cons opensAmount (by kernel_rfl) (opensL_cons (opens_string Tryd.underlying9) (by kernel_rfl) (opensL_cons (opens_int Tryd.underlying3) (by kernel_rfl) (opensL_cons (opens_int Tryd.underlying3) (by kernel_rfl) (opensL_cons (opens_int Tryd.underlying3) (by kernel_rfl) (opensL_cons (opens_int Tryd.underlying3) (by kernel_rfl) (opensL_cons (opens_int Tryd.underlying3) (by kernel_rfl) (opensL_cons (opens_bool Tryd.underlying4) (by kernel_rfl) (opensL_cons (opens_int Tryd.underlying22) (by kernel_rfl) (opensL_cons (opens_slice (d := kLabel) 32 Tryd.underlying40 (by kernel_rfl) (by kernel_rfl) opensLabel) (by kernel_rfl) (opensL_cons (opens_int Tryd.underlying3) (by kernel_rfl) (opensL_cons (opens_string Tryd.underlying9) (by kernel_rfl) (opensL_cons (opens_int Tryd.underlying3) (by kernel_rfl) (opensL_one (opens_int Tryd.underlying3) (by kernel_rfl)))))))))))))))))))))))))))))))

/-- flotilla/api.Fault -/
structure Fault where
  No : Int
  At : Int
deriving Inhabited
def eFault (x : Fault) : List AV := [.v (.int .i64 x.No), .v (.int .i64 x.At)]
def kFault : Kv Fault := Kv.iso (Kv.pair (Kv.int .i64) (Kv.int .i64)) eFault
def OkFault (x : Fault) : Prop := (fun n : Int => (Lit.int .i64 n).wf = true) x.No ∧ (fun n : Int => (Lit.int .i64 n).wf = true) x.At
theorem opensFault : Opens Tryd.prog kFault 50 OkFault :=
  opens_struct (fun x : Fault => (x.No, x.At)) (fun p => (⟨p.1, p.2⟩ : Fault)) (fun _ => rfl) (fun _ => rfl) Tryd.underlying50 (by kernel_rfl) (opensL_cons (opens_int Tryd.underlying46) (by kernel_rfl) (opensL_one (opens_int Tryd.underlying3) (by kernel_rfl)))

/-- With marks behind the lists' ends. -/
def gObject (pLabel : List Label) (x : Object) : List AV := [.v (.int .i64 x.Kind), .v (.string x.Name), .v (.int .i64 x.Version), .v (.int .i64 x.Born), lstOf 2 eLabel x.Labels pLabel, .v (.int .i64 x.Room.Cpu), .v (.int .i64 x.Room.Mem), .v (.bool x.Cordoned), .v (.bool x.Draining), .v (.bool x.Lost), .v (.int .i64 x.Beat), .v (.string x.Deploy), .v (.string x.Set), .v (.string x.Node), .v (.int .i64 x.Phase), .v (.bool x.Ready), .v (.bool x.Ending), .v (.int .i64 x.Need.Cpu), .v (.int .i64 x.Need.Mem), .v (.string x.Image), .v (.int .i64 x.Rise), .v (.int .i64 x.Fall), .v (.int .i64 x.Count), .v (.int .i64 x.Surge), .v (.int .i64 x.Slack), .v (.bool x.Paused), .v (.int .u64 x.Hash), lstOf 2 eLabel x.Select pLabel, .v (.int .i64 x.Least), .v (.string x.Holder), .v (.int .i64 x.Term), .v (.int .i64 x.Until)]

end Go.Proofs.YtalkodandfjkmaaDoor.AvS
