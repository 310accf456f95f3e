/- rules.twice in plain words. -/
import Derived.Test.YtcchccdbkpidpaaTw
import Derived.Test.YtcchccdbkpidpaaAvS
import Derived.Test.YtcchccdbkpidpaaAvY
set_option linter.unusedVariables false
namespace Go.Proofs.Ytcchccdbkpidpaa.Ag
open Go Go.RowKit Go.Proofs.Ytcchccdbkpidpaa.Av Go.Proofs.Ytcchccdbkpidpaa.AvS

/-- The place of the first object whose name stands ahead. -/
def twQ (l : List Object) : Int := twL [] (l.map (·.Name))
def okTw (l : List Object) : Prop := l.length < 9223372036854775807 ∧ ∀ o ∈ l, o.Name.size ≤ 9223372036854775807
instance (l : List Object) : Decidable (okTw l) := by unfold okTw; infer_instance
theorem nmA_obj {enc : Object → List AV} (he : ∀ o, ∃ x r, enc o = x :: .v (.string o.Name) :: r) : ∀ l : List Object, (∀ o ∈ l, o.Name.size ≤ 9223372036854775807) → nmA (l.map enc) = some (l.map (·.Name))
  | [], _ => rfl
  | o :: l, h => by
    obtain ⟨x, r, e⟩ := he o
    rw [List.map_cons, e]
    unfold nmA
    rw [nmA_obj he l fun o ho => h o (List.mem_cons_of_mem _ ho)]
    have := h o List.mem_cons_self
    have hb : Nat.ble o.Name.size 9223372036854775807 = true := Nat.ble_eq_true_of_le this
    simp only [hb, List.map_cons]
theorem twiceM_eq (pO : List Object) (pL : List Label) (l : List Object) (h : okTw l) : twiceM [lstOf 32 (gObject pL) l pO] = some (.v (.int .i64 (twQ l)), []) := by
  unfold twiceM lstOf
  simp only []
  rw [app_nil, nmA_obj (enc := gObject pL) (fun o => ⟨_, _, rfl⟩) l h.2]
  have hb : Nat.blt l.length 9223372036854775807 = true := Nat.ble_eq_true_of_le h.1
  simp only [hb, twQ]
end Go.Proofs.Ytcchccdbkpidpaa.Ag
