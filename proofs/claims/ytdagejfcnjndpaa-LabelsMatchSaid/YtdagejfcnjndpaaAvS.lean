/- The program's structs as Lean structures, their cells as the interpreter's values; written by a program, proved by Lean. -/
import Derived.Test.YtdagejfcnjndpaaAvT
import Derived.Test.YtdagejfcnjndpaaAvB
set_option maxRecDepth 100000
set_option linter.unusedVariables false
namespace Go.Proofs.Ytdagejfcnjndpaa.AvS
open Go Go.RowKit Go.Proofs.Ytdagejfcnjndpaa.Av

/-- flotilla/api.Label -/
structure Label where
  Key : ByteArray
  Value : ByteArray
deriving Inhabited
def eLabel (x : Label) : List AV := [.v (.string x.Key), .v (.string x.Value)]
def kLabel : Kv Label := Kv.iso (Kv.pair Kv.string Kv.string) eLabel
def OkLabel (x : Label) : Prop := (fun s : ByteArray => s.size ≤ 140737488351232) x.Key ∧ (fun s : ByteArray => s.size ≤ 140737488351232) x.Value
theorem opensLabel : Opens Try.prog kLabel 31 OkLabel :=
  opens_struct (fun x : Label => (x.Key, x.Value)) (fun p => (⟨p.1, p.2⟩ : Label)) (fun _ => rfl) (fun _ => rfl) Try.underlying31 (by kernel_rfl) (opensL_cons (opens_string Try.underlying9) (by kernel_rfl) (opensL_one (opens_string Try.underlying9) (by kernel_rfl)))

end Go.Proofs.Ytdagejfcnjndpaa.AvS
