/- The program's structs as Lean structures, their cells as the interpreter's values; written by a program, proved by Lean. -/
import Derived.Test.YtnoaglgjhgnnfaaAvT
import Derived.Test.YtnoaglgjhgnnfaaAvB
set_option maxRecDepth 100000
set_option linter.unusedVariables false
namespace Go.Proofs.Ytnoaglgjhgnnfaa.AvS
open Go Go.RowKit Go.Proofs.Ytnoaglgjhgnnfaa.Av

/-- flotilla/api.Label -/
structure Label where
  Key : ByteArray
  Value : ByteArray
deriving Inhabited
def eLabel (x : Label) : List AV := [.v (.string x.Key), .v (.string x.Value)]
def kLabel : Kv Label := Kv.iso (Kv.pair Kv.string Kv.string) eLabel
def OkLabel (x : Label) : Prop := (fun s : ByteArray => s.size ≤ 140737488351232) x.Key ∧ (fun s : ByteArray => s.size ≤ 140737488351232) x.Value
theorem opensLabel : Opens Try.prog kLabel 116 OkLabel :=
  opens_struct (fun x : Label => (x.Key, x.Value)) (fun p => (⟨p.1, p.2⟩ : Label)) (fun _ => rfl) (fun _ => rfl) Try.underlying116 (by kernel_rfl) (opensL_cons (opens_string Try.underlying9) (by kernel_rfl) (opensL_one (opens_string Try.underlying9) (by kernel_rfl)))

/-- flotilla/api.Amount -/
structure Amount where
  Cpu : Int
  Mem : Int
deriving Inhabited
def eAmount (x : Amount) : List AV := [.v (.int .i64 x.Cpu), .v (.int .i64 x.Mem)]
def kAmount : Kv Amount := Kv.iso (Kv.pair (Kv.int .i64) (Kv.int .i64)) eAmount
def OkAmount (x : Amount) : Prop := (fun n : Int => (Lit.int .i64 n).wf = true) x.Cpu ∧ (fun n : Int => (Lit.int .i64 n).wf = true) x.Mem
theorem opensAmount : Opens Try.prog kAmount 27 OkAmount :=
  opens_struct (fun x : Amount => (x.Cpu, x.Mem)) (fun p => (⟨p.1, p.2⟩ : Amount)) (fun _ => rfl) (fun _ => rfl) Try.underlying27 (by kernel_rfl) (opensL_cons (opens_int Try.underlying3) (by kernel_rfl) (opensL_one (opens_int Try.underlying3) (by kernel_rfl)))

/-- flotilla/api.Object -/
structure Object where
  Kind : Int
  Name : ByteArray
  Version : Int
  Born : Int
  Labels : List Label
  Room : Amount
  Cordoned : Bool
  Draining : Bool
  Lost : Bool
  Beat : Int
  Deploy : ByteArray
  Set : ByteArray
  Node : ByteArray
  Phase : Int
  Ready : Bool
  Ending : Bool
  Need : Amount
  Image : ByteArray
  Rise : Int
  Fall : Int
  Count : Int
  Surge : Int
  Slack : Int
  Paused : Bool
  Hash : Int
  Select : List Label
  Least : Int
  Holder : ByteArray
  Term : Int
  Until : Int
deriving Inhabited
def eObject (x : Object) : List AV := [.v (.int .i64 x.Kind), .v (.string x.Name), .v (.int .i64 x.Version), .v (.int .i64 x.Born), lstOf 2 eLabel x.Labels [], .v (.int .i64 x.Room.Cpu), .v (.int .i64 x.Room.Mem), .v (.bool x.Cordoned), .v (.bool x.Draining), .v (.bool x.Lost), .v (.int .i64 x.Beat), .v (.string x.Deploy), .v (.string x.Set), .v (.string x.Node), .v (.int .i64 x.Phase), .v (.bool x.Ready), .v (.bool x.Ending), .v (.int .i64 x.Need.Cpu), .v (.int .i64 x.Need.Mem), .v (.string x.Image), .v (.int .i64 x.Rise), .v (.int .i64 x.Fall), .v (.int .i64 x.Count), .v (.int .i64 x.Surge), .v (.int .i64 x.Slack), .v (.bool x.Paused), .v (.int .u64 x.Hash), lstOf 2 eLabel x.Select [], .v (.int .i64 x.Least), .v (.string x.Holder), .v (.int .i64 x.Term), .v (.int .i64 x.Until)]
def kObject : Kv Object := Kv.iso (Kv.pair (Kv.int .i64) (Kv.pair Kv.string (Kv.pair (Kv.int .i64) (Kv.pair (Kv.int .i64) (Kv.pair (Kv.slice kLabel) (Kv.pair kAmount (Kv.pair Kv.bool (Kv.pair Kv.bool (Kv.pair Kv.bool (Kv.pair (Kv.int .i64) (Kv.pair Kv.string (Kv.pair Kv.string (Kv.pair Kv.string (Kv.pair (Kv.int .i64) (Kv.pair Kv.bool (Kv.pair Kv.bool (Kv.pair kAmount (Kv.pair Kv.string (Kv.pair (Kv.int .i64) (Kv.pair (Kv.int .i64) (Kv.pair (Kv.int .i64) (Kv.pair (Kv.int .i64) (Kv.pair (Kv.int .i64) (Kv.pair Kv.bool (Kv.pair (Kv.int .u64) (Kv.pair (Kv.slice kLabel) (Kv.pair (Kv.int .i64) (Kv.pair Kv.string (Kv.pair (Kv.int .i64) (Kv.int .i64)))))))))))))))))))))))))))))) eObject
def OkObject (x : Object) : Prop := (fun n : Int => (Lit.int .i64 n).wf = true) x.Kind ∧ (fun s : ByteArray => s.size ≤ 140737488351232) x.Name ∧ (fun n : Int => (Lit.int .i64 n).wf = true) x.Version ∧ (fun n : Int => (Lit.int .i64 n).wf = true) x.Born ∧ (fun xs : List Label => xs.length * 32 ≤ 140737488351232 ∧ xs.length ≤ 9223372036854775807 ∧ ∀ x ∈ xs, OkLabel x) x.Labels ∧ OkAmount x.Room ∧ (fun _ : Bool => True) x.Cordoned ∧ (fun _ : Bool => True) x.Draining ∧ (fun _ : Bool => True) x.Lost ∧ (fun n : Int => (Lit.int .i64 n).wf = true) x.Beat ∧ (fun s : ByteArray => s.size ≤ 140737488351232) x.Deploy ∧ (fun s : ByteArray => s.size ≤ 140737488351232) x.Set ∧ (fun s : ByteArray => s.size ≤ 140737488351232) x.Node ∧ (fun n : Int => (Lit.int .i64 n).wf = true) x.Phase ∧ (fun _ : Bool => True) x.Ready ∧ (fun _ : Bool => True) x.Ending ∧ OkAmount x.Need ∧ (fun s : ByteArray => s.size ≤ 140737488351232) x.Image ∧ (fun n : Int => (Lit.int .i64 n).wf = true) x.Rise ∧ (fun n : Int => (Lit.int .i64 n).wf = true) x.Fall ∧ (fun n : Int => (Lit.int .i64 n).wf = true) x.Count ∧ (fun n : Int => (Lit.int .i64 n).wf = true) x.Surge ∧ (fun n : Int => (Lit.int .i64 n).wf = true) x.Slack ∧ (fun _ : Bool => True) x.Paused ∧ (fun n : Int => (Lit.int .u64 n).wf = true) x.Hash ∧ (fun xs : List Label => xs.length * 32 ≤ 140737488351232 ∧ xs.length ≤ 9223372036854775807 ∧ ∀ x ∈ xs, OkLabel x) x.Select ∧ (fun n : Int => (Lit.int .i64 n).wf = true) x.Least ∧ (fun s : ByteArray => s.size ≤ 140737488351232) x.Holder ∧ (fun n : Int => (Lit.int .i64 n).wf = true) x.Term ∧ (fun n : Int => (Lit.int .i64 n).wf = true) x.Until
theorem opensObject : Opens Try.prog kObject 30 OkObject :=
  opens_struct (fun x : Object => (x.Kind, x.Name, x.Version, x.Born, x.Labels, x.Room, x.Cordoned, x.Draining, x.Lost, x.Beat, x.Deploy, x.Set, x.Node, x.Phase, x.Ready, x.Ending, x.Need, x.Image, x.Rise, x.Fall, x.Count, x.Surge, x.Slack, x.Paused, x.Hash, x.Select, x.Least, x.Holder, x.Term, x.Until)) (fun p => (⟨p.1, p.2.1, p.2.2.1, p.2.2.2.1, p.2.2.2.2.1, p.2.2.2.2.2.1, p.2.2.2.2.2.2.1, p.2.2.2.2.2.2.2.1, p.2.2.2.2.2.2.2.2.1, p.2.2.2.2.2.2.2.2.2.1, p.2.2.2.2.2.2.2.2.2.2.1, p.2.2.2.2.2.2.2.2.2.2.2.1, p.2.2.2.2.2.2.2.2.2.2.2.2.1, p.2.2.2.2.2.2.2.2.2.2.2.2.2.1, p.2.2.2.2.2.2.2.2.2.2.2.2.2.2.1, p.2.2.2.2.2.2.2.2.2.2.2.2.2.2.2.1, p.2.2.2.2.2.2.2.2.2.2.2.2.2.2.2.2.1, p.2.2.2.2.2.2.2.2.2.2.2.2.2.2.2.2.2.1, p.2.2.2.2.2.2.2.2.2.2.2.2.2.2.2.2.2.2.1, p.2.2.2.2.2.2.2.2.2.2.2.2.2.2.2.2.2.2.2.1, p.2.2.2.2.2.2.2.2.2.2.2.2.2.2.2.2.2.2.2.2.1, p.2.2.2.2.2.2.2.2.2.2.2.2.2.2.2.2.2.2.2.2.2.1, p.2.2.2.2.2.2.2.2.2.2.2.2.2.2.2.2.2.2.2.2.2.2.1, p.2.2.2.2.2.2.2.2.2.2.2.2.2.2.2.2.2.2.2.2.2.2.2.1, p.2.2.2.2.2.2.2.2.2.2.2.2.2.2.2.2.2.2.2.2.2.2.2.2.1, p.2.2.2.2.2.2.2.2.2.2.2.2.2.2.2.2.2.2.2.2.2.2.2.2.2.1, p.2.2.2.2.2.2.2.2.2.2.2.2.2.2.2.2.2.2.2.2.2.2.2.2.2.2.1, p.2.2.2.2.2.2.2.2.2.2.2.2.2.2.2.2.2.2.2.2.2.2.2.2.2.2.2.1, p.2.2.2.2.2.2.2.2.2.2.2.2.2.2.2.2.2.2.2.2.2.2.2.2.2.2.2.2.1, p.2.2.2.2.2.2.2.2.2.2.2.2.2.2.2.2.2.2.2.2.2.2.2.2.2.2.2.2.2⟩ : Object)) (fun _ => rfl) (fun _ => rfl) Try.underlying30 (by kernel_rfl) (opensL_cons (opens_int Try.underlying3) (by kernel_rfl) (opensL_cons (opens_string Try.underlying9) (by kernel_rfl) (opensL_cons (opens_int Try.underlying3) (by kernel_rfl) (opensL_cons (opens_int Try.underlying3) (by kernel_rfl) (opensL_cons (opens_slice (d := kLabel) 32 Try.underlying25 (by kernel_rfl) (by kernel_rfl) opensLabel) (by kernel_rfl) (opensL_cons opensAmount (by kernel_rfl) (opensL_cons (opens_bool Try.underlying4) (by kernel_rfl) (opensL_cons (opens_bool Try.underlying4) (by kernel_rfl) (opensL_cons (opens_bool Try.underlying4) (by kernel_rfl) (opensL_cons (opens_int Try.underlying3) (by kernel_rfl) (opensL_cons (opens_string Try.underlying9) (by kernel_rfl) (opensL_cons (opens_string Try.underlying9) (by kernel_rfl) (opensL_cons (opens_string Try.underlying9) (by kernel_rfl) (opensL_cons (opens_int Try.underlying3) (by kernel_rfl) (opensL_cons (opens_bool Try.underlying4) (by kernel_rfl) (opensL_cons (opens_bool Try.underlying4) (by kernel_rfl) (opensL_cons opensAmount (by kernel_rfl) (opensL_cons (opens_string Try.underlying9) (by kernel_rfl) (opensL_cons (opens_int Try.underlying3) (by kernel_rfl) (opensL_cons (opens_int Try.underlying3) (by kernel_rfl) (opensL_cons (opens_int Try.underlying3) (by kernel_rfl) (opensL_cons (opens_int Try.underlying3) (by kernel_rfl) (opensL_cons (opens_int Try.underlying3) (by kernel_rfl) (opensL_cons (opens_bool Try.underlying4) (by kernel_rfl) (opensL_cons (opens_int Try.underlying28) (by kernel_rfl) (opensL_cons (opens_slice (d := kLabel) 32 Try.underlying25 (by kernel_rfl) (by kernel_rfl) opensLabel) (by kernel_rfl) (opensL_cons (opens_int Try.underlying3) (by kernel_rfl) (opensL_cons (opens_string Try.underlying9) (by kernel_rfl) (opensL_cons (opens_int Try.underlying3) (by kernel_rfl) (opensL_one (opens_int Try.underlying3) (by kernel_rfl)))))))))))))))))))))))))))))))

/-- flotilla/api.Fleet -/
structure Fleet where
  Nodes : List Object
  Pods : List Object
  Deploys : List Object
  Budgets : List Object
deriving Inhabited
def eFleet (x : Fleet) : List AV := [lstOf 32 eObject x.Nodes [], lstOf 32 eObject x.Pods [], lstOf 32 eObject x.Deploys [], lstOf 32 eObject x.Budgets []]
def kFleet : Kv Fleet := Kv.iso (Kv.pair (Kv.slice kObject) (Kv.pair (Kv.slice kObject) (Kv.pair (Kv.slice kObject) (Kv.slice kObject)))) eFleet
def OkFleet (x : Fleet) : Prop := (fun xs : List Object => xs.length * 312 ≤ 140737488351232 ∧ xs.length ≤ 9223372036854775807 ∧ ∀ x ∈ xs, OkObject x) x.Nodes ∧ (fun xs : List Object => xs.length * 312 ≤ 140737488351232 ∧ xs.length ≤ 9223372036854775807 ∧ ∀ x ∈ xs, OkObject x) x.Pods ∧ (fun xs : List Object => xs.length * 312 ≤ 140737488351232 ∧ xs.length ≤ 9223372036854775807 ∧ ∀ x ∈ xs, OkObject x) x.Deploys ∧ (fun xs : List Object => xs.length * 312 ≤ 140737488351232 ∧ xs.length ≤ 9223372036854775807 ∧ ∀ x ∈ xs, OkObject x) x.Budgets
theorem opensFleet : Opens Try.prog kFleet 24 OkFleet :=
  opens_struct (fun x : Fleet => (x.Nodes, x.Pods, x.Deploys, x.Budgets)) (fun p => (⟨p.1, p.2.1, p.2.2.1, p.2.2.2⟩ : Fleet)) (fun _ => rfl) (fun _ => rfl) Try.underlying24 (by kernel_rfl) (opensL_cons (opens_slice (d := kObject) 312 Try.underlying22 (by kernel_rfl) (by kernel_rfl) opensObject) (by kernel_rfl) (opensL_cons (opens_slice (d := kObject) 312 Try.underlying22 (by kernel_rfl) (by kernel_rfl) opensObject) (by kernel_rfl) (opensL_cons (opens_slice (d := kObject) 312 Try.underlying22 (by kernel_rfl) (by kernel_rfl) opensObject) (by kernel_rfl) (opensL_one (opens_slice (d := kObject) 312 Try.underlying22 (by kernel_rfl) (by kernel_rfl) opensObject) (by kernel_rfl)))))

/-- flotilla/api.Request -/
structure Request where
  Verb : Int
  Object : Object
  Kind : Int
  Name : ByteArray
  Version : Int
  Node : ByteArray
  Phase : Int
  Ready : Bool
  Now : Int
  By : ByteArray
  Term : Int
deriving Inhabited
def eRequest (x : Request) : List AV := [.v (.int .i64 x.Verb), .v (.int .i64 x.Object.Kind), .v (.string x.Object.Name), .v (.int .i64 x.Object.Version), .v (.int .i64 x.Object.Born), lstOf 2 eLabel x.Object.Labels [], .v (.int .i64 x.Object.Room.Cpu), .v (.int .i64 x.Object.Room.Mem), .v (.bool x.Object.Cordoned), .v (.bool x.Object.Draining), .v (.bool x.Object.Lost), .v (.int .i64 x.Object.Beat), .v (.string x.Object.Deploy), .v (.string x.Object.Set), .v (.string x.Object.Node), .v (.int .i64 x.Object.Phase), .v (.bool x.Object.Ready), .v (.bool x.Object.Ending), .v (.int .i64 x.Object.Need.Cpu), .v (.int .i64 x.Object.Need.Mem), .v (.string x.Object.Image), .v (.int .i64 x.Object.Rise), .v (.int .i64 x.Object.Fall), .v (.int .i64 x.Object.Count), .v (.int .i64 x.Object.Surge), .v (.int .i64 x.Object.Slack), .v (.bool x.Object.Paused), .v (.int .u64 x.Object.Hash), lstOf 2 eLabel x.Object.Select [], .v (.int .i64 x.Object.Least), .v (.string x.Object.Holder), .v (.int .i64 x.Object.Term), .v (.int .i64 x.Object.Until), .v (.int .i64 x.Kind), .v (.string x.Name), .v (.int .i64 x.Version), .v (.string x.Node), .v (.int .i64 x.Phase), .v (.bool x.Ready), .v (.int .i64 x.Now), .v (.string x.By), .v (.int .i64 x.Term)]
def kRequest : Kv Request := Kv.iso (Kv.pair (Kv.int .i64) (Kv.pair kObject (Kv.pair (Kv.int .i64) (Kv.pair Kv.string (Kv.pair (Kv.int .i64) (Kv.pair Kv.string (Kv.pair (Kv.int .i64) (Kv.pair Kv.bool (Kv.pair (Kv.int .i64) (Kv.pair Kv.string (Kv.int .i64))))))))))) eRequest
def OkRequest (x : Request) : Prop := (fun n : Int => (Lit.int .i64 n).wf = true) x.Verb ∧ OkObject x.Object ∧ (fun n : Int => (Lit.int .i64 n).wf = true) x.Kind ∧ (fun s : ByteArray => s.size ≤ 140737488351232) x.Name ∧ (fun n : Int => (Lit.int .i64 n).wf = true) x.Version ∧ (fun s : ByteArray => s.size ≤ 140737488351232) x.Node ∧ (fun n : Int => (Lit.int .i64 n).wf = true) x.Phase ∧ (fun _ : Bool => True) x.Ready ∧ (fun n : Int => (Lit.int .i64 n).wf = true) x.Now ∧ (fun s : ByteArray => s.size ≤ 140737488351232) x.By ∧ (fun n : Int => (Lit.int .i64 n).wf = true) x.Term
theorem opensRequest : Opens Try.prog kRequest 68 OkRequest :=
  opens_struct (fun x : Request => (x.Verb, x.Object, x.Kind, x.Name, x.Version, x.Node, x.Phase, x.Ready, x.Now, x.By, x.Term)) (fun p => (⟨p.1, p.2.1, p.2.2.1, p.2.2.2.1, p.2.2.2.2.1, p.2.2.2.2.2.1, p.2.2.2.2.2.2.1, p.2.2.2.2.2.2.2.1, p.2.2.2.2.2.2.2.2.1, p.2.2.2.2.2.2.2.2.2.1, p.2.2.2.2.2.2.2.2.2.2⟩ : Request)) (fun _ => rfl) (fun _ => rfl) Try.underlying68 (by kernel_rfl) (opensL_cons (opens_int Try.underlying3) (by kernel_rfl) (opensL_cons opensObject (by kernel_rfl) (opensL_cons (opens_int Try.underlying3) (by kernel_rfl) (opensL_cons (opens_string Try.underlying9) (by kernel_rfl) (opensL_cons (opens_int Try.underlying3) (by kernel_rfl) (opensL_cons (opens_string Try.underlying9) (by kernel_rfl) (opensL_cons (opens_int Try.underlying3) (by kernel_rfl) (opensL_cons (opens_bool Try.underlying4) (by kernel_rfl) (opensL_cons (opens_int Try.underlying3) (by kernel_rfl) (opensL_cons (opens_string Try.underlying9) (by kernel_rfl) (opensL_one (opens_int Try.underlying3) (by kernel_rfl))))))))))))

/-- flotilla/api.Key -/
structure Key where
  Kind : Int
  Name : ByteArray
deriving Inhabited
def eKey (x : Key) : List AV := [.v (.int .i64 x.Kind), .v (.string x.Name)]
def kKey : Kv Key := Kv.iso (Kv.pair (Kv.int .i64) Kv.string) eKey
def OkKey (x : Key) : Prop := (fun n : Int => (Lit.int .i64 n).wf = true) x.Kind ∧ (fun s : ByteArray => s.size ≤ 140737488351232) x.Name
theorem opensKey : Opens Try.prog kKey 123 OkKey :=
  opens_struct (fun x : Key => (x.Kind, x.Name)) (fun p => (⟨p.1, p.2⟩ : Key)) (fun _ => rfl) (fun _ => rfl) Try.underlying123 (by kernel_rfl) (opensL_cons (opens_int Try.underlying3) (by kernel_rfl) (opensL_one (opens_string Try.underlying9) (by kernel_rfl)))

/-- flotilla/api.Cond -/
structure Cond where
  Key : Key
  Version : Int
deriving Inhabited
def eCond (x : Cond) : List AV := [.v (.int .i64 x.Key.Kind), .v (.string x.Key.Name), .v (.int .i64 x.Version)]
def kCond : Kv Cond := Kv.iso (Kv.pair kKey (Kv.int .i64)) eCond
def OkCond (x : Cond) : Prop := OkKey x.Key ∧ (fun n : Int => (Lit.int .i64 n).wf = true) x.Version
theorem opensCond : Opens Try.prog kCond 139 OkCond :=
  opens_struct (fun x : Cond => (x.Key, x.Version)) (fun p => (⟨p.1, p.2⟩ : Cond)) (fun _ => rfl) (fun _ => rfl) Try.underlying139 (by kernel_rfl) (opensL_cons opensKey (by kernel_rfl) (opensL_one (opens_int Try.underlying3) (by kernel_rfl)))

/-- flotilla/api.Probe -/
structure Probe where
  Good : Int
  Bad : Int
  Ready : Bool
deriving Inhabited
def eProbe (x : Probe) : List AV := [.v (.int .i64 x.Good), .v (.int .i64 x.Bad), .v (.bool x.Ready)]
def kProbe : Kv Probe := Kv.iso (Kv.pair (Kv.int .i64) (Kv.pair (Kv.int .i64) Kv.bool)) eProbe
def OkProbe (x : Probe) : Prop := (fun n : Int => (Lit.int .i64 n).wf = true) x.Good ∧ (fun n : Int => (Lit.int .i64 n).wf = true) x.Bad ∧ (fun _ : Bool => True) x.Ready
theorem opensProbe : Opens Try.prog kProbe 145 OkProbe :=
  opens_struct (fun x : Probe => (x.Good, x.Bad, x.Ready)) (fun p => (⟨p.1, p.2.1, p.2.2⟩ : Probe)) (fun _ => rfl) (fun _ => rfl) Try.underlying145 (by kernel_rfl) (opensL_cons (opens_int Try.underlying3) (by kernel_rfl) (opensL_cons (opens_int Try.underlying3) (by kernel_rfl) (opensL_one (opens_bool Try.underlying4) (by kernel_rfl))))

/-- flotilla/api.Op -/
structure Op where
  Key : Key
  Gone : Bool
  Object : Object
deriving Inhabited
def eOp (x : Op) : List AV := [.v (.int .i64 x.Key.Kind), .v (.string x.Key.Name), .v (.bool x.Gone), .v (.int .i64 x.Object.Kind), .v (.string x.Object.Name), .v (.int .i64 x.Object.Version), .v (.int .i64 x.Object.Born), lstOf 2 eLabel x.Object.Labels [], .v (.int .i64 x.Object.Room.Cpu), .v (.int .i64 x.Object.Room.Mem), .v (.bool x.Object.Cordoned), .v (.bool x.Object.Draining), .v (.bool x.Object.Lost), .v (.int .i64 x.Object.Beat), .v (.string x.Object.Deploy), .v (.string x.Object.Set), .v (.string x.Object.Node), .v (.int .i64 x.Object.Phase), .v (.bool x.Object.Ready), .v (.bool x.Object.Ending), .v (.int .i64 x.Object.Need.Cpu), .v (.int .i64 x.Object.Need.Mem), .v (.string x.Object.Image), .v (.int .i64 x.Object.Rise), .v (.int .i64 x.Object.Fall), .v (.int .i64 x.Object.Count), .v (.int .i64 x.Object.Surge), .v (.int .i64 x.Object.Slack), .v (.bool x.Object.Paused), .v (.int .u64 x.Object.Hash), lstOf 2 eLabel x.Object.Select [], .v (.int .i64 x.Object.Least), .v (.string x.Object.Holder), .v (.int .i64 x.Object.Term), .v (.int .i64 x.Object.Until)]
def kOp : Kv Op := Kv.iso (Kv.pair kKey (Kv.pair Kv.bool kObject)) eOp
def OkOp (x : Op) : Prop := OkKey x.Key ∧ (fun _ : Bool => True) x.Gone ∧ OkObject x.Object
theorem opensOp : Opens Try.prog kOp 125 OkOp :=
  opens_struct (fun x : Op => (x.Key, x.Gone, x.Object)) (fun p => (⟨p.1, p.2.1, p.2.2⟩ : Op)) (fun _ => rfl) (fun _ => rfl) Try.underlying125 (by kernel_rfl) (opensL_cons opensKey (by kernel_rfl) (opensL_cons (opens_bool Try.underlying4) (by kernel_rfl) (opensL_one opensObject (by kernel_rfl))))

/-- flotilla/flotillakit.Book -/
structure kit_Book where
  bytes : List (List Int)
  texts : List (List ByteArray)
  ints : List (List Int)
  numbers : List (List Int)
  bools : List (List Bool)
  labels : List (List Label)
  keys : List (List Key)
  conds : List (List Cond)
  amounts : List (List Amount)
  probes : List (List Probe)
  objects : List (List Object)
  ops : List (List Op)
deriving Inhabited
def ekit_Book (x : kit_Book) : List AV := [lstOf 1 (eLst 1 (eInt .u8) []) x.bytes [], lstOf 1 (eLst 1 eStr []) x.texts [], lstOf 1 (eLst 1 (eInt .i64) []) x.ints [], lstOf 1 (eLst 1 (eInt .u64) []) x.numbers [], lstOf 1 (eLst 1 eBool []) x.bools [], lstOf 1 (eLst 2 eLabel []) x.labels [], lstOf 1 (eLst 2 eKey []) x.keys [], lstOf 1 (eLst 3 eCond []) x.conds [], lstOf 1 (eLst 2 eAmount []) x.amounts [], lstOf 1 (eLst 3 eProbe []) x.probes [], lstOf 1 (eLst 32 eObject []) x.objects [], lstOf 1 (eLst 35 eOp []) x.ops []]
def kkit_Book : Kv kit_Book := Kv.iso (Kv.pair (Kv.slice (Kv.slice (Kv.int .u8))) (Kv.pair (Kv.slice (Kv.slice Kv.string)) (Kv.pair (Kv.slice (Kv.slice (Kv.int .i64))) (Kv.pair (Kv.slice (Kv.slice (Kv.int .u64))) (Kv.pair (Kv.slice (Kv.slice Kv.bool)) (Kv.pair (Kv.slice (Kv.slice kLabel)) (Kv.pair (Kv.slice (Kv.slice kKey)) (Kv.pair (Kv.slice (Kv.slice kCond)) (Kv.pair (Kv.slice (Kv.slice kAmount)) (Kv.pair (Kv.slice (Kv.slice kProbe)) (Kv.pair (Kv.slice (Kv.slice kObject)) (Kv.slice (Kv.slice kOp))))))))))))) ekit_Book
def Okkit_Book (x : kit_Book) : Prop := (fun xs : List (List Int) => xs.length * 24 ≤ 140737488351232 ∧ xs.length ≤ 9223372036854775807 ∧ ∀ x ∈ xs, (fun xs : List Int => xs.length * 1 ≤ 140737488351232 ∧ xs.length ≤ 9223372036854775807 ∧ ∀ x ∈ xs, (fun n : Int => (Lit.int .u8 n).wf = true) x) x) x.bytes ∧ (fun xs : List (List ByteArray) => xs.length * 24 ≤ 140737488351232 ∧ xs.length ≤ 9223372036854775807 ∧ ∀ x ∈ xs, (fun xs : List ByteArray => xs.length * 16 ≤ 140737488351232 ∧ xs.length ≤ 9223372036854775807 ∧ ∀ x ∈ xs, (fun s : ByteArray => s.size ≤ 140737488351232) x) x) x.texts ∧ (fun xs : List (List Int) => xs.length * 24 ≤ 140737488351232 ∧ xs.length ≤ 9223372036854775807 ∧ ∀ x ∈ xs, (fun xs : List Int => xs.length * 8 ≤ 140737488351232 ∧ xs.length ≤ 9223372036854775807 ∧ ∀ x ∈ xs, (fun n : Int => (Lit.int .i64 n).wf = true) x) x) x.ints ∧ (fun xs : List (List Int) => xs.length * 24 ≤ 140737488351232 ∧ xs.length ≤ 9223372036854775807 ∧ ∀ x ∈ xs, (fun xs : List Int => xs.length * 8 ≤ 140737488351232 ∧ xs.length ≤ 9223372036854775807 ∧ ∀ x ∈ xs, (fun n : Int => (Lit.int .u64 n).wf = true) x) x) x.numbers ∧ (fun xs : List (List Bool) => xs.length * 24 ≤ 140737488351232 ∧ xs.length ≤ 9223372036854775807 ∧ ∀ x ∈ xs, (fun xs : List Bool => xs.length * 1 ≤ 140737488351232 ∧ xs.length ≤ 9223372036854775807 ∧ ∀ x ∈ xs, (fun _ : Bool => True) x) x) x.bools ∧ (fun xs : List (List Label) => xs.length * 24 ≤ 140737488351232 ∧ xs.length ≤ 9223372036854775807 ∧ ∀ x ∈ xs, (fun xs : List Label => xs.length * 32 ≤ 140737488351232 ∧ xs.length ≤ 9223372036854775807 ∧ ∀ x ∈ xs, OkLabel x) x) x.labels ∧ (fun xs : List (List Key) => xs.length * 24 ≤ 140737488351232 ∧ xs.length ≤ 9223372036854775807 ∧ ∀ x ∈ xs, (fun xs : List Key => xs.length * 24 ≤ 140737488351232 ∧ xs.length ≤ 9223372036854775807 ∧ ∀ x ∈ xs, OkKey x) x) x.keys ∧ (fun xs : List (List Cond) => xs.length * 24 ≤ 140737488351232 ∧ xs.length ≤ 9223372036854775807 ∧ ∀ x ∈ xs, (fun xs : List Cond => xs.length * 32 ≤ 140737488351232 ∧ xs.length ≤ 9223372036854775807 ∧ ∀ x ∈ xs, OkCond x) x) x.conds ∧ (fun xs : List (List Amount) => xs.length * 24 ≤ 140737488351232 ∧ xs.length ≤ 9223372036854775807 ∧ ∀ x ∈ xs, (fun xs : List Amount => xs.length * 16 ≤ 140737488351232 ∧ xs.length ≤ 9223372036854775807 ∧ ∀ x ∈ xs, OkAmount x) x) x.amounts ∧ (fun xs : List (List Probe) => xs.length * 24 ≤ 140737488351232 ∧ xs.length ≤ 9223372036854775807 ∧ ∀ x ∈ xs, (fun xs : List Probe => xs.length * 24 ≤ 140737488351232 ∧ xs.length ≤ 9223372036854775807 ∧ ∀ x ∈ xs, OkProbe x) x) x.probes ∧ (fun xs : List (List Object) => xs.length * 24 ≤ 140737488351232 ∧ xs.length ≤ 9223372036854775807 ∧ ∀ x ∈ xs, (fun xs : List Object => xs.length * 312 ≤ 140737488351232 ∧ xs.length ≤ 9223372036854775807 ∧ ∀ x ∈ xs, OkObject x) x) x.objects ∧ (fun xs : List (List Op) => xs.length * 24 ≤ 140737488351232 ∧ xs.length ≤ 9223372036854775807 ∧ ∀ x ∈ xs, (fun xs : List Op => xs.length * 344 ≤ 140737488351232 ∧ xs.length ≤ 9223372036854775807 ∧ ∀ x ∈ xs, OkOp x) x) x.ops
theorem openskit_Book : Opens Try.prog kkit_Book 53 Okkit_Book :=
  opens_struct (fun x : kit_Book => (x.bytes, x.texts, x.ints, x.numbers, x.bools, x.labels, x.keys, x.conds, x.amounts, x.probes, x.objects, x.ops)) (fun p => (⟨p.1, p.2.1, p.2.2.1, p.2.2.2.1, p.2.2.2.2.1, p.2.2.2.2.2.1, p.2.2.2.2.2.2.1, p.2.2.2.2.2.2.2.1, p.2.2.2.2.2.2.2.2.1, p.2.2.2.2.2.2.2.2.2.1, p.2.2.2.2.2.2.2.2.2.2.1, p.2.2.2.2.2.2.2.2.2.2.2⟩ : kit_Book)) (fun _ => rfl) (fun _ => rfl) Try.underlying53 (by kernel_rfl) (opensL_cons (opens_slice (d := (Kv.slice (Kv.int .u8))) 24 Try.underlying40 (by kernel_rfl) (by kernel_rfl) (opens_slice (d := (Kv.int .u8)) 1 Try.underlying104 (by kernel_rfl) (by kernel_rfl) (opens_int Try.underlying5))) (by kernel_rfl) (opensL_cons (opens_slice (d := (Kv.slice Kv.string)) 24 Try.underlying41 (by kernel_rfl) (by kernel_rfl) (opens_slice (d := Kv.string) 16 Try.underlying127 (by kernel_rfl) (by kernel_rfl) (opens_string Try.underlying9))) (by kernel_rfl) (opensL_cons (opens_slice (d := (Kv.slice (Kv.int .i64))) 24 Try.underlying42 (by kernel_rfl) (by kernel_rfl) (opens_slice (d := (Kv.int .i64)) 8 Try.underlying129 (by kernel_rfl) (by kernel_rfl) (opens_int Try.underlying3))) (by kernel_rfl) (opensL_cons (opens_slice (d := (Kv.slice (Kv.int .u64))) 24 Try.underlying43 (by kernel_rfl) (by kernel_rfl) (opens_slice (d := (Kv.int .u64)) 8 Try.underlying130 (by kernel_rfl) (by kernel_rfl) (opens_int Try.underlying28))) (by kernel_rfl) (opensL_cons (opens_slice (d := (Kv.slice Kv.bool)) 24 Try.underlying44 (by kernel_rfl) (by kernel_rfl) (opens_slice (d := Kv.bool) 1 Try.underlying132 (by kernel_rfl) (by kernel_rfl) (opens_bool Try.underlying4))) (by kernel_rfl) (opensL_cons (opens_slice (d := (Kv.slice kLabel)) 24 Try.underlying45 (by kernel_rfl) (by kernel_rfl) (opens_slice (d := kLabel) 32 Try.underlying25 (by kernel_rfl) (by kernel_rfl) opensLabel)) (by kernel_rfl) (opensL_cons (opens_slice (d := (Kv.slice kKey)) 24 Try.underlying46 (by kernel_rfl) (by kernel_rfl) (opens_slice (d := kKey) 24 Try.underlying135 (by kernel_rfl) (by kernel_rfl) opensKey)) (by kernel_rfl) (opensL_cons (opens_slice (d := (Kv.slice kCond)) 24 Try.underlying47 (by kernel_rfl) (by kernel_rfl) (opens_slice (d := kCond) 32 Try.underlying137 (by kernel_rfl) (by kernel_rfl) opensCond)) (by kernel_rfl) (opensL_cons (opens_slice (d := (Kv.slice kAmount)) 24 Try.underlying48 (by kernel_rfl) (by kernel_rfl) (opens_slice (d := kAmount) 16 Try.underlying141 (by kernel_rfl) (by kernel_rfl) opensAmount)) (by kernel_rfl) (opensL_cons (opens_slice (d := (Kv.slice kProbe)) 24 Try.underlying49 (by kernel_rfl) (by kernel_rfl) (opens_slice (d := kProbe) 24 Try.underlying143 (by kernel_rfl) (by kernel_rfl) opensProbe)) (by kernel_rfl) (opensL_cons (opens_slice (d := (Kv.slice kObject)) 24 Try.underlying50 (by kernel_rfl) (by kernel_rfl) (opens_slice (d := kObject) 312 Try.underlying22 (by kernel_rfl) (by kernel_rfl) opensObject)) (by kernel_rfl) (opensL_one (opens_slice (d := (Kv.slice kOp)) 24 Try.underlying51 (by kernel_rfl) (by kernel_rfl) (opens_slice (d := kOp) 344 Try.underlying121 (by kernel_rfl) (by kernel_rfl) opensOp)) (by kernel_rfl)))))))))))))

/-- flotilla/roll.rollout -/
structure roll_rollout where
  f : Fleet
  d : Object
  sets : List Object
  name : ByteArray
  newest : Int
deriving Inhabited
def eroll_rollout (x : roll_rollout) : List AV := [lstOf 32 eObject x.f.Nodes [], lstOf 32 eObject x.f.Pods [], lstOf 32 eObject x.f.Deploys [], lstOf 32 eObject x.f.Budgets [], .v (.int .i64 x.d.Kind), .v (.string x.d.Name), .v (.int .i64 x.d.Version), .v (.int .i64 x.d.Born), lstOf 2 eLabel x.d.Labels [], .v (.int .i64 x.d.Room.Cpu), .v (.int .i64 x.d.Room.Mem), .v (.bool x.d.Cordoned), .v (.bool x.d.Draining), .v (.bool x.d.Lost), .v (.int .i64 x.d.Beat), .v (.string x.d.Deploy), .v (.string x.d.Set), .v (.string x.d.Node), .v (.int .i64 x.d.Phase), .v (.bool x.d.Ready), .v (.bool x.d.Ending), .v (.int .i64 x.d.Need.Cpu), .v (.int .i64 x.d.Need.Mem), .v (.string x.d.Image), .v (.int .i64 x.d.Rise), .v (.int .i64 x.d.Fall), .v (.int .i64 x.d.Count), .v (.int .i64 x.d.Surge), .v (.int .i64 x.d.Slack), .v (.bool x.d.Paused), .v (.int .u64 x.d.Hash), lstOf 2 eLabel x.d.Select [], .v (.int .i64 x.d.Least), .v (.string x.d.Holder), .v (.int .i64 x.d.Term), .v (.int .i64 x.d.Until), lstOf 32 eObject x.sets [], .v (.string x.name), .v (.int .i64 x.newest)]
def kroll_rollout : Kv roll_rollout := Kv.iso (Kv.pair kFleet (Kv.pair kObject (Kv.pair (Kv.slice kObject) (Kv.pair Kv.string (Kv.int .i64))))) eroll_rollout
def Okroll_rollout (x : roll_rollout) : Prop := OkFleet x.f ∧ OkObject x.d ∧ (fun xs : List Object => xs.length * 312 ≤ 140737488351232 ∧ xs.length ≤ 9223372036854775807 ∧ ∀ x ∈ xs, OkObject x) x.sets ∧ (fun s : ByteArray => s.size ≤ 140737488351232) x.name ∧ (fun n : Int => (Lit.int .i64 n).wf = true) x.newest
theorem opensroll_rollout : Opens Try.prog kroll_rollout 101 Okroll_rollout :=
  opens_struct (fun x : roll_rollout => (x.f, x.d, x.sets, x.name, x.newest)) (fun p => (⟨p.1, p.2.1, p.2.2.1, p.2.2.2.1, p.2.2.2.2⟩ : roll_rollout)) (fun _ => rfl) (fun _ => rfl) Try.underlying101 (by kernel_rfl) (opensL_cons opensFleet (by kernel_rfl) (opensL_cons opensObject (by kernel_rfl) (opensL_cons (opens_slice (d := kObject) 312 Try.underlying22 (by kernel_rfl) (by kernel_rfl) opensObject) (by kernel_rfl) (opensL_cons (opens_string Try.underlying9) (by kernel_rfl) (opensL_one (opens_int Try.underlying3) (by kernel_rfl))))))

/-- With marks behind the lists' ends. -/
def gObject (pLabel : List Label) (x : Object) : List AV := [.v (.int .i64 x.Kind), .v (.string x.Name), .v (.int .i64 x.Version), .v (.int .i64 x.Born), lstOf 2 eLabel x.Labels pLabel, .v (.int .i64 x.Room.Cpu), .v (.int .i64 x.Room.Mem), .v (.bool x.Cordoned), .v (.bool x.Draining), .v (.bool x.Lost), .v (.int .i64 x.Beat), .v (.string x.Deploy), .v (.string x.Set), .v (.string x.Node), .v (.int .i64 x.Phase), .v (.bool x.Ready), .v (.bool x.Ending), .v (.int .i64 x.Need.Cpu), .v (.int .i64 x.Need.Mem), .v (.string x.Image), .v (.int .i64 x.Rise), .v (.int .i64 x.Fall), .v (.int .i64 x.Count), .v (.int .i64 x.Surge), .v (.int .i64 x.Slack), .v (.bool x.Paused), .v (.int .u64 x.Hash), lstOf 2 eLabel x.Select pLabel, .v (.int .i64 x.Least), .v (.string x.Holder), .v (.int .i64 x.Term), .v (.int .i64 x.Until)]

/-- With marks behind the lists' ends. -/
def gFleet (pObject : List Object) (pLabel : List Label) (x : Fleet) : List AV := [lstOf 32 (gObject pLabel) x.Nodes pObject, lstOf 32 (gObject pLabel) x.Pods pObject, lstOf 32 (gObject pLabel) x.Deploys pObject, lstOf 32 (gObject pLabel) x.Budgets pObject]

/-- With marks behind the lists' ends. -/
def gRequest (pLabel : List Label) (x : Request) : List AV := [.v (.int .i64 x.Verb), .v (.int .i64 x.Object.Kind), .v (.string x.Object.Name), .v (.int .i64 x.Object.Version), .v (.int .i64 x.Object.Born), lstOf 2 eLabel x.Object.Labels pLabel, .v (.int .i64 x.Object.Room.Cpu), .v (.int .i64 x.Object.Room.Mem), .v (.bool x.Object.Cordoned), .v (.bool x.Object.Draining), .v (.bool x.Object.Lost), .v (.int .i64 x.Object.Beat), .v (.string x.Object.Deploy), .v (.string x.Object.Set), .v (.string x.Object.Node), .v (.int .i64 x.Object.Phase), .v (.bool x.Object.Ready), .v (.bool x.Object.Ending), .v (.int .i64 x.Object.Need.Cpu), .v (.int .i64 x.Object.Need.Mem), .v (.string x.Object.Image), .v (.int .i64 x.Object.Rise), .v (.int .i64 x.Object.Fall), .v (.int .i64 x.Object.Count), .v (.int .i64 x.Object.Surge), .v (.int .i64 x.Object.Slack), .v (.bool x.Object.Paused), .v (.int .u64 x.Object.Hash), lstOf 2 eLabel x.Object.Select pLabel, .v (.int .i64 x.Object.Least), .v (.string x.Object.Holder), .v (.int .i64 x.Object.Term), .v (.int .i64 x.Object.Until), .v (.int .i64 x.Kind), .v (.string x.Name), .v (.int .i64 x.Version), .v (.string x.Node), .v (.int .i64 x.Phase), .v (.bool x.Ready), .v (.int .i64 x.Now), .v (.string x.By), .v (.int .i64 x.Term)]

/-- With marks behind the lists' ends. -/
def gOp (pLabel : List Label) (x : Op) : List AV := [.v (.int .i64 x.Key.Kind), .v (.string x.Key.Name), .v (.bool x.Gone), .v (.int .i64 x.Object.Kind), .v (.string x.Object.Name), .v (.int .i64 x.Object.Version), .v (.int .i64 x.Object.Born), lstOf 2 eLabel x.Object.Labels pLabel, .v (.int .i64 x.Object.Room.Cpu), .v (.int .i64 x.Object.Room.Mem), .v (.bool x.Object.Cordoned), .v (.bool x.Object.Draining), .v (.bool x.Object.Lost), .v (.int .i64 x.Object.Beat), .v (.string x.Object.Deploy), .v (.string x.Object.Set), .v (.string x.Object.Node), .v (.int .i64 x.Object.Phase), .v (.bool x.Object.Ready), .v (.bool x.Object.Ending), .v (.int .i64 x.Object.Need.Cpu), .v (.int .i64 x.Object.Need.Mem), .v (.string x.Object.Image), .v (.int .i64 x.Object.Rise), .v (.int .i64 x.Object.Fall), .v (.int .i64 x.Object.Count), .v (.int .i64 x.Object.Surge), .v (.int .i64 x.Object.Slack), .v (.bool x.Object.Paused), .v (.int .u64 x.Object.Hash), lstOf 2 eLabel x.Object.Select pLabel, .v (.int .i64 x.Object.Least), .v (.string x.Object.Holder), .v (.int .i64 x.Object.Term), .v (.int .i64 x.Object.Until)]

/-- With marks behind the lists' ends. -/
def gkit_Book (pInt : List Int) (pBool : List Bool) (pInt : List Int) (pByteArray : List ByteArray) (pListObject : List (List Object)) (pListLabel : List (List Label)) (pAmount : List Amount) (pInt : List Int) (pObject : List Object) (pListInt : List (List Int)) (pLabel : List Label) (pListOp : List (List Op)) (pKey : List Key) (pOp : List Op) (pListByteArray : List (List ByteArray)) (pListInt : List (List Int)) (pListInt : List (List Int)) (pListBool : List (List Bool)) (pListKey : List (List Key)) (pListCond : List (List Cond)) (pCond : List Cond) (pListAmount : List (List Amount)) (pListProbe : List (List Probe)) (pProbe : List Probe) (x : kit_Book) : List AV := [lstOf 1 (eLst 1 (eInt .u8) pInt) x.bytes pListInt, lstOf 1 (eLst 1 eStr pByteArray) x.texts pListByteArray, lstOf 1 (eLst 1 (eInt .i64) pInt) x.ints pListInt, lstOf 1 (eLst 1 (eInt .u64) pInt) x.numbers pListInt, lstOf 1 (eLst 1 eBool pBool) x.bools pListBool, lstOf 1 (eLst 2 eLabel pLabel) x.labels pListLabel, lstOf 1 (eLst 2 eKey pKey) x.keys pListKey, lstOf 1 (eLst 3 eCond pCond) x.conds pListCond, lstOf 1 (eLst 2 eAmount pAmount) x.amounts pListAmount, lstOf 1 (eLst 3 eProbe pProbe) x.probes pListProbe, lstOf 1 (eLst 32 (gObject pLabel) pObject) x.objects pListObject, lstOf 1 (eLst 35 (gOp pLabel) pOp) x.ops pListOp]

/-- With marks behind the lists' ends. -/
def groll_rollout (pObject : List Object) (pLabel : List Label) (x : roll_rollout) : List AV := [lstOf 32 (gObject pLabel) x.f.Nodes pObject, lstOf 32 (gObject pLabel) x.f.Pods pObject, lstOf 32 (gObject pLabel) x.f.Deploys pObject, lstOf 32 (gObject pLabel) x.f.Budgets pObject, .v (.int .i64 x.d.Kind), .v (.string x.d.Name), .v (.int .i64 x.d.Version), .v (.int .i64 x.d.Born), lstOf 2 eLabel x.d.Labels pLabel, .v (.int .i64 x.d.Room.Cpu), .v (.int .i64 x.d.Room.Mem), .v (.bool x.d.Cordoned), .v (.bool x.d.Draining), .v (.bool x.d.Lost), .v (.int .i64 x.d.Beat), .v (.string x.d.Deploy), .v (.string x.d.Set), .v (.string x.d.Node), .v (.int .i64 x.d.Phase), .v (.bool x.d.Ready), .v (.bool x.d.Ending), .v (.int .i64 x.d.Need.Cpu), .v (.int .i64 x.d.Need.Mem), .v (.string x.d.Image), .v (.int .i64 x.d.Rise), .v (.int .i64 x.d.Fall), .v (.int .i64 x.d.Count), .v (.int .i64 x.d.Surge), .v (.int .i64 x.d.Slack), .v (.bool x.d.Paused), .v (.int .u64 x.d.Hash), lstOf 2 eLabel x.d.Select pLabel, .v (.int .i64 x.d.Least), .v (.string x.d.Holder), .v (.int .i64 x.d.Term), .v (.int .i64 x.d.Until), lstOf 32 (gObject pLabel) x.sets pObject, .v (.string x.name), .v (.int .i64 x.newest)]

end Go.Proofs.Ytnoaglgjhgnnfaa.AvS
