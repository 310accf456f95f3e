/- The program's structs as Lean structures, their cells as the interpreter's values; written by a program, proved by Lean. -/
import Derived.Test.YtnoaglgjhgnnfaaAvT
import Derived.Test.YtnoaglgjhgnnfaaAvB
set_option maxRecDepth 100000
set_option linter.unusedVariables false
namespace Go.Proofs.Ytnoaglgjhgnnfaa.AvS
open Go Go.RowKit Go.Proofs.Ytnoaglgjhgnnfaa.Av

/-- flotilla/api.Label -/
structure Label where
  Key : ByteArray
  Value : ByteArray
deriving Inhabited
def eLabel (x : Label) : List AV := [.v (.string x.Key), .v (.string x.Value)]
def kLabel : Kv Label := Kv.iso (Kv.pair Kv.string Kv.string) eLabel
def OkLabel (x : Label) : Prop := (fun s : ByteArray => s.size ≤ 140737488351232) x.Key ∧ (fun s : ByteArray => s.size ≤ 140737488351232) x.Value
theorem opensLabel : Opens Try.prog kLabel 116 OkLabel :=
  opens_struct (fun x : Label => (x.Key, x.Value)) (fun p => (⟨p.1, p.2⟩ : Label)) (fun _ => rfl) (fun _ => rfl) Try.underlying116 (by kernel_rfl) (opensL_cons (opens_string Try.underlying9) (by kernel_rfl) (opensL_one (opens_string Try.underlying9) (by kernel_rfl)))

/-- flotilla/api.Amount -/
structure Amount where
  Cpu : Int
  Mem : Int
deriving Inhabited
def eAmount (x : Amount) : List AV := [.v (.int .i64 x.Cpu), .v (.int .i64 x.Mem)]
def kAmount : Kv Amount := Kv.iso (Kv.pair (Kv.int .i64) (Kv.int .i64)) eAmount
def OkAmount (x : Amount) : Prop := (fun n : Int => (Lit.int .i64 n).wf = true) x.Cpu ∧ (fun n : Int => (Lit.int .i64 n).wf = true) x.Mem
theorem opensAmount : Opens Try.prog kAmount 27 OkAmount :=
  opens_struct (fun x : Amount => (x.Cpu, x.Mem)) (fun p => (⟨p.1, p.2⟩ : Amount)) (fun _ => rfl) (fun _ => rfl) Try.underlying27 (by kernel_rfl) (opensL_cons (opens_int Try.underlying3) (by kernel_rfl) (opensL_one (opens_int Try.underlying3) (by kernel_rfl)))

/-- flotilla/api.Object -/
structure Object where
  Kind : Int
  Name : ByteArray
  Version : Int
  Born : Int
  Labels : List Label
  Room : Amount
  Cordoned : Bool
  Draining : Bool
  Lost : Bool
  Beat : Int
  Deploy : ByteArray
  Set : ByteArray
  Node : ByteArray
  Phase : Int
  Ready : Bool
  Ending : Bool
  Need : Amount
  Image : ByteArray
  Rise : Int
  Fall : Int
  Count : Int
  Surge : Int
  Slack : Int
  Paused : Bool
  Hash : Int
  Select : List Label
  Least : Int
  Holder : ByteArray
  Term : Int
  Until : Int
deriving Inhabited
def eObject (x : Object) : List AV := [.v (.int .i64 x.Kind), .v (.string x.Name), .v (.int .i64 x.Version), .v (.int .i64 x.Born), lstOf 2 eLabel x.Labels [], .v (.int .i64 x.Room.Cpu), .v (.int .i64 x.Room.Mem), .v (.bool x.Cordoned), .v (.bool x.Draining), .v (.bool x.Lost), .v (.int .i64 x.Beat), .v (.string x.Deploy), .v (.string x.Set), .v (.string x.Node), .v (.int .i64 x.Phase), .v (.bool x.Ready), .v (.bool x.Ending), .v (.int .i64 x.Need.Cpu), .v (.int .i64 x.Need.Mem), .v (.string x.Image), .v (.int .i64 x.Rise), .v (.int .i64 x.Fall), .v (.int .i64 x.Count), .v (.int .i64 x.Surge), .v (.int .i64 x.Slack), .v (.bool x.Paused), .v (.int .u64 x.Hash), lstOf 2 eLabel x.Select [], .v (.int .i64 x.Least), .v (.string x.Holder), .v (.int .i64 x.Term), .v (.int .i64 x.Until)]
def kObject : Kv Object := Kv.iso (Kv.pair (Kv.int .i64) (Kv.pair Kv.string (Kv.pair (Kv.int .i64) (Kv.pair (Kv.int .i64) (Kv.pair (Kv.slice kLabel) (Kv.pair kAmount (Kv.pair Kv.bool (Kv.pair Kv.bool (Kv.pair Kv.bool (Kv.pair (Kv.int .i64) (Kv.pair Kv.string (Kv.pair Kv.string (Kv.pair Kv.string (Kv.pair (Kv.int .i64) (Kv.pair Kv.bool (Kv.pair Kv.bool (Kv.pair kAmount (Kv.pair Kv.string (Kv.pair (Kv.int .i64) (Kv.pair (Kv.int .i64) (Kv.pair (Kv.int .i64) (Kv.pair (Kv.int .i64) (Kv.pair (Kv.int .i64) (Kv.pair Kv.bool (Kv.pair (Kv.int .u64) (Kv.pair (Kv.slice kLabel) (Kv.pair (Kv.int .i64) (Kv.pair Kv.string (Kv.pair (Kv.int .i64) (Kv.int .i64)))))))))))))))))))))))))))))) eObject
def OkObject (x : Object) : Prop := (fun n : Int => (Lit.int .i64 n).wf = true) x.Kind ∧ (fun s : ByteArray => s.size ≤ 140737488351232) x.Name ∧ (fun n : Int => (Lit.int .i64 n).wf = true) x.Version ∧ (fun n : Int => (Lit.int .i64 n).wf = true) x.Born ∧ (fun xs : List Label => xs.length * 32 ≤ 140737488351232 ∧ xs.length ≤ 9223372036854775807 ∧ ∀ x ∈ xs, OkLabel x) x.Labels ∧ OkAmount x.Room ∧ (fun _ : Bool => True) x.Cordoned ∧ (fun _ : Bool => True) x.Draining ∧ (fun _ : Bool => True) x.Lost ∧ (fun n : Int => (Lit.int .i64 n).wf = true) x.Beat ∧ (fun s : ByteArray => s.size ≤ 140737488351232) x.Deploy ∧ (fun s : ByteArray => s.size ≤ 140737488351232) x.Set ∧ (fun s : ByteArray => s.size ≤ 140737488351232) x.Node ∧ (fun n : Int => (Lit.int .i64 n).wf = true) x.Phase ∧ (fun _ : Bool => True) x.Ready ∧ (fun _ : Bool => True) x.Ending ∧ OkAmount x.Need ∧ (fun s : ByteArray => s.size ≤ 140737488351232) x.Image ∧ (fun n : Int => (Lit.int .i64 n).wf = true) x.Rise ∧ (fun n : Int => (Lit.int .i64 n).wf = true) x.Fall ∧ (fun n : Int => (Lit.int .i64 n).wf = true) x.Count ∧ (fun n : Int => (Lit.int .i64 n).wf = true) x.Surge ∧ (fun n : Int => (Lit.int .i64 n).wf = true) x.Slack ∧ (fun _ : Bool => True) x.Paused ∧ (fun n : Int => (Lit.int .u64 n).wf = true) x.Hash ∧ (fun xs : List Label => xs.length * 32 ≤ 140737488351232 ∧ xs.length ≤ 9223372036854775807 ∧ ∀ x ∈ xs, OkLabel x) x.Select ∧ (fun n : Int => (Lit.int .i64 n).wf = true) x.Least ∧ (fun s : ByteArray => s.size ≤ 140737488351232) x.Holder ∧ (fun n : Int => (Lit.int .i64 n).wf = true) x.Term ∧ (fun n : Int => (Lit.int .i64 n).wf = true) x.Until
theorem opensObject : Opens Try.prog kObject 30 OkObject :=
  opens_struct (fun x : Object => (x.Kind, x.Name, x.Version, x.Born, x.Labels, x.Room, x.Cordoned, x.Draining, x.Lost, x.Beat, x.Deploy, x.Set, x.Node, x.Phase, x.Ready, x.Ending, x.Need, x.Image, x.Rise, x.Fall, x.Count, x.Surge, x.Slack, x.Paused, x.Hash, x.Select, x.Least, x.Holder, x.Term, x.Until)) (fun p => (⟨p.1, p.2.1, p.2.2.1, p.2.2.2.1, p.2.2.2.2.1, p.2.2.2.2.2.1, p.2.2.2.2.2.2.1, p.2.2.2.2.2.2.2.1, p.2.2.2.2.2.2.2.2.1, p.2.2.2.2.2.2.2.2.2.1, p.2.2.2.2.2.2.2.2.2.2.1, p.2.2.2.2.2.2.2.2.2.2.2.1, p.2.2.2.2.2.2.2.2.2.2.2.2.1, p.2.2.2.2.2.2.2.2.2.2.2.2.2.1, p.2.2.2.2.2.2.2.2.2.2.2.2.2.2.1, p.2.2.2.2.2.2.2.2.2.2.2.2.2.2.2.1, p.2.2.2.2.2.2.2.2.2.2.2.2.2.2.2.2.1, p.2.2.2.2.2.2.2.2.2.2.2.2.2.2.2.2.2.1, p.2.2.2.2.2.2.2.2.2.2.2.2.2.2.2.2.2.2.1, p.2.2.2.2.2.2.2.2.2.2.2.2.2.2.2.2.2.2.2.1, p.2.2.2.2.2.2.2.2.2.2.2.2.2.2.2.2.2.2.2.2.1, p.2.2.2.2.2.2.2.2.2.2.2.2.2.2.2.2.2.2.2.2.2.1, p.2.2.2.2.2.2.2.2.2.2.2.2.2.2.2.2.2.2.2.2.2.2.1, p.2.2.2.2.2.2.2.2.2.2.2.2.2.2.2.2.2.2.2.2.2.2.2.1, p.2.2.2.2.2.2.2.2.2.2.2.2.2.2.2.2.2.2.2.2.2.2.2.2.1, p.2.2.2.2.2.2.2.2.2.2.2.2.2.2.2.2.2.2.2.2.2.2.2.2.2.1, p.2.2.2.2.2.2.2.2.2.2.2.2.2.2.2.2.2.2.2.2.2.2.2.2.2.2.1, p.2.2.2.2.2.2.2.2.2.2.2.2.2.2.2.2.2.2.2.2.2.2.2.2.2.2.2.1, p.2.2.2.2.2.2.2.2.2.2.2.2.2.2.2.2.2.2.2.2.2.2.2.2.2.2.2.2.1, p.2.2.2.2.2.2.2.2.2.2.2.2.2.2.2.2.2.2.2.2.2.2.2.2.2.2.2.2.2⟩ : Object)) (fun _ => rfl) (fun _ => rfl) Try.underlying30 (by kernel_rfl) (opensL_cons (opens_int Try.underlying3) (by kernel_rfl) (opensL_cons (opens_string Try.underlying9) (by kernel_rfl) (opensL_cons (opens_int Try.underlying3) (by kernel_rfl) (opensL_cons (opens_int Try.underlying3) (by kernel_rfl) (opensL_cons (opens_slice (d := kLabel) 32 Try.underlying25 (by kernel_rfl) (by kernel_rfl) opensLabel) (by kernel_rfl) (opensL_cons opensAmount (by kernel_rfl) (opensL_cons (opens_bool Try.underlying4) (by kernel_rfl) (opensL_cons (opens_bool Try.underlying4) (by kernel_rfl) (opensL_cons (opens_bool Try.underlying4) (by kernel_rfl) (opensL_cons (opens_int Try.underlying3) (by kernel_rfl) (opensL_cons (opens_string Try.underlying9) (by kernel_rfl) (opensL_cons (opens_string Try.underlying9) (by kernel_rfl) (opensL_cons (opens_string Try.underlying9) (by kernel_rfl) (opensL_cons (opens_int Try.underlying3) (by kernel_rfl) (opensL_cons (opens_bool Try.underlying4) (by kernel_rfl) (opensL_cons (opens_bool Try.underlying4) (by kernel_rfl) (opensL_cons opensAmount (by kernel_rfl) (opensL_cons (opens_string Try.underlying9) (by kernel_rfl) (opensL_cons (opens_int Try.underlying3) (by kernel_rfl) (opensL_cons (opens_int Try.underlying3) (by kernel_rfl) (opensL_cons (opens_int Try.underlying3) (by kernel_rfl) (opensL_cons (opens_int Try.underlying3) (by kernel_rfl) (opensL_cons (opens_int Try.underlying3) (by kernel_rfl) (opensL_cons (opens_bool Try.underlying4) (by kernel_rfl) (opensL_cons (opens_int Try.underlying28) (by kernel_rfl) (opensL_cons (opens_slice (d := kLabel) 32 Try.underlying25 (by kernel_rfl) (by kernel_rfl) opensLabel) (by kernel_rfl) (opensL_cons (opens_int Try.underlying3) (by kernel_rfl) (opensL_cons (opens_string Try.underlying9) (by kernel_rfl) (opensL_cons (opens_int Try.underlying3) (by kernel_rfl) (opensL_one (opens_int Try.underlying3) (by kernel_rfl)))))))))))))))))))))))))))))))

/-- flotilla/api.Fleet -/
structure Fleet where
  Nodes : List Object
  Pods : List Object
  Deploys : List Object
  Budgets : List Object
deriving Inhabited
def eFleet (x : Fleet) : List AV := [lstOf 32 eObject x.Nodes [], lstOf 32 eObject x.Pods [], lstOf 32 eObject x.Deploys [], lstOf 32 eObject x.Budgets []]
def kFleet : Kv Fleet := Kv.iso (Kv.pair (Kv.slice kObject) (Kv.pair (Kv.slice kObject) (Kv.pair (Kv.slice kObject) (Kv.slice kObject)))) eFleet
def OkFleet (x : Fleet) : Prop := (fun xs : List Object => xs.length * 312 ≤ 140737488351232 ∧ xs.length ≤ 9223372036854775807 ∧ ∀ x ∈ xs, OkObject x) x.Nodes ∧ (fun xs : List Object => xs.length * 312 ≤ 140737488351232 ∧ xs.length ≤ 9223372036854775807 ∧ ∀ x ∈ xs, OkObject x) x.Pods ∧ (fun xs : List Object => xs.length * 312 ≤ 140737488351232 ∧ xs.length ≤ 9223372036854775807 ∧ ∀ x ∈ xs, OkObject x) x.Deploys ∧ (fun xs : List Object => xs.length * 312 ≤ 140737488351232 ∧ xs.length ≤ 9223372036854775807 ∧ ∀ x ∈ xs, OkObject x) x.Budgets
theorem opensFleet : Opens Try.prog kFleet 24 OkFleet :=
  opens_struct (fun x : Fleet => (x.Nodes, x.Pods, x.Deploys, x.Budgets)) (fun p => (⟨p.1, p.2.1, p.2.2.1, p.2.2.2⟩ : Fleet)) (fun _ => rfl) (fun _ => rfl) Try.underlying24 (by kernel_rfl) (opensL_cons (opens_slice (d := kObject) 312 Try.underlying22 (by kernel_rfl) (by kernel_rfl) opensObject) (by kernel_rfl) (opensL_cons (opens_slice (d := kObject) 312 Try.underlying22 (by kernel_rfl) (by kernel_rfl) opensObject) (by kernel_rfl) (opensL_cons (opens_slice (d := kObject) 312 Try.underlying22 (by kernel_rfl) (by kernel_rfl) opensObject) (by kernel_rfl) (opensL_one (opens_slice (d := kObject) 312 Try.underlying22 (by kernel_rfl) (by kernel_rfl) opensObject) (by kernel_rfl)))))

/-- flotilla/api.Request -/
structure Request where
  Verb : Int
  Object : Object
  Kind : Int
  Name : ByteArray
  Version : Int
  Node : ByteArray
  Phase : Int
  Ready : Bool
  Now : Int
  By : ByteArray
  Term : Int
deriving Inhabited
/-- flotilla/api.Key -/
structure Key where
  Kind : Int
  Name : ByteArray
deriving Inhabited
/-- flotilla/api.Op -/
structure Op where
  Key : Key
  Gone : Bool
  Object : Object
deriving Inhabited
/-- With marks behind the lists' ends. -/
def gObject (pLabel : List Label) (x : Object) : List AV := [.v (.int .i64 x.Kind), .v (.string x.Name), .v (.int .i64 x.Version), .v (.int .i64 x.Born), lstOf 2 eLabel x.Labels pLabel, .v (.int .i64 x.Room.Cpu), .v (.int .i64 x.Room.Mem), .v (.bool x.Cordoned), .v (.bool x.Draining), .v (.bool x.Lost), .v (.int .i64 x.Beat), .v (.string x.Deploy), .v (.string x.Set), .v (.string x.Node), .v (.int .i64 x.Phase), .v (.bool x.Ready), .v (.bool x.Ending), .v (.int .i64 x.Need.Cpu), .v (.int .i64 x.Need.Mem), .v (.string x.Image), .v (.int .i64 x.Rise), .v (.int .i64 x.Fall), .v (.int .i64 x.Count), .v (.int .i64 x.Surge), .v (.int .i64 x.Slack), .v (.bool x.Paused), .v (.int .u64 x.Hash), lstOf 2 eLabel x.Select pLabel, .v (.int .i64 x.Least), .v (.string x.Holder), .v (.int .i64 x.Term), .v (.int .i64 x.Until)]

/-- With marks behind the lists' ends. -/
def gFleet (pObject : List Object) (pLabel : List Label) (x : Fleet) : List AV := [lstOf 32 (gObject pLabel) x.Nodes pObject, lstOf 32 (gObject pLabel) x.Pods pObject, lstOf 32 (gObject pLabel) x.Deploys pObject, lstOf 32 (gObject pLabel) x.Budgets pObject]

/-- With marks behind the lists' ends. -/
def gRequest (pLabel : List Label) (x : Request) : List AV := [.v (.int .i64 x.Verb), .v (.int .i64 x.Object.Kind), .v (.string x.Object.Name), .v (.int .i64 x.Object.Version), .v (.int .i64 x.Object.Born), lstOf 2 eLabel x.Object.Labels pLabel, .v (.int .i64 x.Object.Room.Cpu), .v (.int .i64 x.Object.Room.Mem), .v (.bool x.Object.Cordoned), .v (.bool x.Object.Draining), .v (.bool x.Object.Lost), .v (.int .i64 x.Object.Beat), .v (.string x.Object.Deploy), .v (.string x.Object.Set), .v (.string x.Object.Node), .v (.int .i64 x.Object.Phase), .v (.bool x.Object.Ready), .v (.bool x.Object.Ending), .v (.int .i64 x.Object.Need.Cpu), .v (.int .i64 x.Object.Need.Mem), .v (.string x.Object.Image), .v (.int .i64 x.Object.Rise), .v (.int .i64 x.Object.Fall), .v (.int .i64 x.Object.Count), .v (.int .i64 x.Object.Surge), .v (.int .i64 x.Object.Slack), .v (.bool x.Object.Paused), .v (.int .u64 x.Object.Hash), lstOf 2 eLabel x.Object.Select pLabel, .v (.int .i64 x.Object.Least), .v (.string x.Object.Holder), .v (.int .i64 x.Object.Term), .v (.int .i64 x.Object.Until), .v (.int .i64 x.Kind), .v (.string x.Name), .v (.int .i64 x.Version), .v (.string x.Node), .v (.int .i64 x.Phase), .v (.bool x.Ready), .v (.int .i64 x.Now), .v (.string x.By), .v (.int .i64 x.Term)]

end Go.Proofs.Ytnoaglgjhgnnfaa.AvS
