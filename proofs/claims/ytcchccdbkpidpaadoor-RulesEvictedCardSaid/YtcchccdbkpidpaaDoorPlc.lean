/- flotillakit.Place: of no error, a number, a number with a place. -/
import Derived.Test.YtcchccdbkpidpaaDoorPlain
import Derived.Test.YtcchccdbkpidpaaDoorAvPl
import Derived.RegionCalls
import Derived.Deep.RegionWith
import Derived.Deep.RegionHeld3
import Derived.Below
set_option linter.unusedVariables false
set_option linter.unusedSimpArgs false
namespace Go.Proofs.YtcchccdbkpidpaaDoor.Pl
open Go.RowKit Go.Extern.Stop Go.Stop Go.Extern Go.Proofs.YtcchccdbkpidpaaDoor.Err Go.Proofs.YtcchccdbkpidpaaDoor.As
set_option maxHeartbeats 2000000 in
theorem place_nil (w : World) : Calls Tryd.prog 42 #[.nilIface] w fun e w' => e = .returned (.tuple #[.int .i64 0, .bool false]) ∧ Below w.heap.size w w' := by
  go_enter Tryd.func42, Tryd.ntmps42
  go_wp2
  go_returns
  exact ⟨rfl, (Below.refl _ _).alloc (Nat.le_refl _) _⟩
set_option maxHeartbeats 2000000 in
theorem place_num (c : Int) (w : World) (hg : Glob w) : Calls Tryd.prog 42 #[.iface 54 (.int .i64 c)] w fun e w' => e = .returned (.tuple #[.int .i64 0, .bool false]) ∧ Below w.heap.size w w' := by
  have hga : Glob (w.alloc (.cells #[.int .i64 0, .int .i64 0] 56)) := hg.below ((Below.refl _ _).alloc (Nat.le_refl _) _)
  have HG := Lib.hid hga
  clear hga hg
  go_enter Tryd.func42, Tryd.ntmps42
  go_wp2_with fail
  refine (as_num c _ _ HG.out).mono ?_
  rintro e w2 ⟨rfl, hb⟩
  go_wp2_with fail
  go_returns
  exact ⟨rfl, below_next ((Below.refl _ _).alloc (Nat.le_refl _) _) hb⟩
set_option maxHeartbeats 4000000 in
theorem place_fault (c p : Int) (w : World) (hg : Glob w) : Calls Tryd.prog 42 #[.iface 56 (.agg #[.int .i64 c, .int .i64 p])] w fun e w' => e = .returned (.tuple #[.int .i64 p, .bool (decide (c = numOf c))]) ∧ Below w.heap.size w w' := by
  have hba := (Below.refl w.heap.size w).alloc (Nat.le_refl _) (.cells #[.int .i64 0, .int .i64 0] 56)
  have hga : Glob (w.alloc (.cells #[.int .i64 0, .int .i64 0] 56)) := hg.below hba
  have hh := heap_alloc_new w (.cells #[.int .i64 0, .int .i64 0] 56)
  have hc0 : (w.alloc (.cells #[.int .i64 0, .int .i64 0] 56)).cell? ⟨w.heap.size, 0, none⟩ = some (.int .i64 0) := by rw [cell_of_row _ _ _ _ _ _ hh]; rfl
  have hc1 : (w.alloc (.cells #[.int .i64 0, .int .i64 0] 56)).cell? ⟨w.heap.size, 1, none⟩ = some (.int .i64 0) := by rw [cell_of_row _ _ _ _ _ _ hh]; rfl
  have hf0 : (w.alloc (.cells #[.int .i64 0, .int .i64 0] 56)).frozen? ⟨w.heap.size, 0, none⟩ = false := frozen_of_row _ _ _ _ _ hh
  have hf1 : (w.alloc (.cells #[.int .i64 0, .int .i64 0] 56)).frozen? ⟨w.heap.size, 1, none⟩ = false := frozen_of_row _ _ _ _ _ hh
  have HA := Lib.hid (as_fault c p w.heap.size _ _ _ hga hc0 hc1 hf0 hf1)
  have HH := Lib.hid hh
  have HBA := Lib.hid hba
  clear hga hg hh hba hc0 hc1 hf0 hf1
  obtain ⟨m, hm⟩ : ∃ m, numOf c = m := ⟨_, rfl⟩
  have HC := fun w => num_fault c p w
  rw [hm] at HC ⊢
  clear hm
  go_enter Tryd.func42, Tryd.ntmps42
  go_wp2_with fail
  refine HA.out.mono ?_
  rintro e w2 ⟨rfl, w3, hb3, rfl⟩
  have hlt : w.heap.size < (w.alloc (.cells #[.int .i64 0, .int .i64 0] 56)).heap.size := by rw [World.size_alloc]; omega
  have hh3 := (hb3.block w.heap.size hlt).trans HH.out
  have hh4 : ((w3.setCell ⟨w.heap.size, 0, none⟩ (.int .i64 c)).setCell ⟨w.heap.size, 1, none⟩ (.int .i64 p)).heap[w.heap.size]? = some (.cells #[.int .i64 c, .int .i64 p] 56 (0, 0)) := by
    simp [World.setCell, Array.getElem?_modify, hh3]
  have hb4 := below_two (below_next HBA.out hb3) (Nat.le_refl _) (.int .i64 c) (.int .i64 p)
  obtain ⟨w4, hw4⟩ : ∃ w4, (w3.setCell ⟨w.heap.size, 0, none⟩ (.int .i64 c)).setCell ⟨w.heap.size, 1, none⟩ (.int .i64 p) = w4 := ⟨_, rfl⟩
  rw [hw4] at hh4 hb4 ⊢
  clear hw4 hh3 hlt hb3 HA HH HBA
  have hc0 : w4.cell? ⟨w.heap.size, 0, none⟩ = some (.int .i64 c) := by rw [cell_of_row _ _ _ _ _ _ hh4]; rfl
  have hc1 : w4.cell? ⟨w.heap.size, 1, none⟩ = some (.int .i64 p) := by rw [cell_of_row _ _ _ _ _ _ hh4]; rfl
  have HH4 := Lib.hid hh4
  have HB4 := Lib.hid hb4
  clear hh4 hb4
  go_wp2_with fail
  have hlt4 : w.heap.size < w4.heap.size := (Array.getElem?_eq_some_iff.1 HH4.out).1
  go_region_held3 (fun w' => w'.cell? ⟨w.heap.size, 0, none⟩ = some (.int .i64 c) ∧ w'.cell? ⟨w.heap.size, 1, none⟩ = some (.int .i64 p))
    (first | exact ⟨hc0, hc1⟩ | exact ⟨hd0, hd1⟩ | go_keep)
    ((go_at_call 24; refine (HC _).mono ?_; rintro e w5 ⟨rfl, hb5⟩
      have hb6 : Below w4.heap.size w4 w5 := (Below.refl w4.heap.size w4).drew.trans hb5
      have hd0 : w5.cell? ⟨w.heap.size, 0, none⟩ = some (.int .i64 c) := (hb6.cell (p := ⟨w.heap.size, 0, none⟩) hlt4).trans hc0
      have hd1 : w5.cell? ⟨w.heap.size, 1, none⟩ = some (.int .i64 p) := (hb6.cell (p := ⟨w.heap.size, 1, none⟩) hlt4).trans hc1))
  all_goals (go_wp2_with fail; go_returns; refine ⟨?_, below_next HB4.out hb6⟩)
  all_goals rfl
end Go.Proofs.YtcchccdbkpidpaaDoor.Pl
namespace Go.Proofs.YtcchccdbkpidpaaDoor.Ag
open Go Go.RowKit Go.Proofs.YtcchccdbkpidpaaDoor.Av
open Go.Proofs.YtcchccdbkpidpaaDoor.As (Glob)
open Go.Proofs.YtcchccdbkpidpaaDoor Go.Proofs.YtcchccdbkpidpaaDoor.Err
/-- What Place answers. -/
def placeQ : Er → Int × Bool
  | .ok => (0, false)
  | .no _ => (0, false)
  | .at n i => (i, decide (n = numOf n))
def placeM : List AV → Option (AV × List Blk)
  | [x] => match erOf x with | some e => some (.v (.tuple #[.int .i64 (placeQ e).1, .bool (placeQ e).2]), []) | none => none
  | _ => none
theorem place_models : Models Tryd.prog Glob 42 placeM := by
  refine models_of_calls hGlob fun S w bs vs r Hr hvs hg e => ?_
  unfold placeM at e
  split at e
  · rename_i x
    split at e
    · rename_i er he
      simp only [Option.some.injEq, Prod.mk.injEq] at e
      obtain ⟨rfl, rfl⟩ := e
      obtain ⟨u, us, rfl, hx, hr⟩ := hvs.tail
      obtain rfl := hr.nil_inv
      obtain rfl := erOf_rep he hx
      refine ⟨_, rfl, rfl, ?_⟩
      cases er with
      | ok => exact Pl.place_nil w
      | no n => exact Pl.place_num n w hg
      | «at» n i => exact Pl.place_fault n i w hg
    · cases e
  · cases e
end Go.Proofs.YtcchccdbkpidpaaDoor.Ag
