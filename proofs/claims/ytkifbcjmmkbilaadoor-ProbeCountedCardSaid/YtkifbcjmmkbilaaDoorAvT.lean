/- The table of types and functions of this program, for the interpreter over plain values; written by a program, proved by Lean. -/
import Derived.Test.YtkifbcjmmkbilaaDoorProg
import Derived.Test.YtkifbcjmmkbilaaDoorChecked
import Derived.Test.YtkifbcjmmkbilaaDoorAvM
set_option maxRecDepth 100000
set_option linter.unusedVariables false
namespace Go.Proofs.YtkifbcjmmkbilaaDoor.AvT
open Go Go.RowKit Go.Proofs.YtkifbcjmmkbilaaDoor.Av

/-- What a type is. -/
def td : Nat → TD
  | 1 => .one (.nilFunc)
  | 2 => .one (.int .i64 0)
  | 3 => .one (.int .i64 0)
  | 4 => .one (.bool false)
  | 6 => .one (.int .u8 0)
  | 8 => .agg 4 [(0, 1, false), (1, 1, false), (2, 1, false), (3, 1, false)] [.int .i64 0, .int .i64 0, .bool false, .int .u8 0]
  | 20 => .one (.nilIface)
  | 23 => .agg 3 [(0, 1, false), (1, 1, false), (2, 1, false)] [.int .i64 0, .int .i64 0, .bool false]
  | 24 => .sl 4 1 1
  | 26 => .agg 2 [(0, 1, false), (1, 1, false)] [.int .i64 0, .int .i64 0]
  | 29 => .one (.nilIface)
  | 40 => .sl 3 1 8
  | 44 => .one (.int .i64 0)
  | 46 => .one (.nilFunc)
  | 49 => .agg 2 [(0, 1, false), (1, 1, false)] [.int .i64 0, .int .i64 0]
  | 52 => .one (.pointer none)
  | 56 => .one (.nilFunc)
  | 63 => .one (.nilFunc)
  | 71 => .one (.nilIface)
  | 77 => .one (.nilFunc)
  | 125 => .one (.pointer none)
  | _ => .no

theorem info1 : (Tryd.prog.info? 1).map (fun i => (i.zero, i.size, i.bytes)) = some (some (.nilFunc), 1, 8) := by kernel_rfl
theorem info2 : (Tryd.prog.info? 2).map (fun i => (i.zero, i.size, i.bytes)) = some (some (.int .i64 0), 1, 8) := by kernel_rfl
theorem info3 : (Tryd.prog.info? 3).map (fun i => (i.zero, i.size, i.bytes)) = some (some (.int .i64 0), 1, 8) := by kernel_rfl
theorem info4 : (Tryd.prog.info? 4).map (fun i => (i.zero, i.size, i.bytes)) = some (some (.bool false), 1, 1) := by kernel_rfl
theorem info6 : (Tryd.prog.info? 6).map (fun i => (i.zero, i.size, i.bytes)) = some (some (.int .u8 0), 1, 1) := by kernel_rfl
theorem info8 : (Tryd.prog.info? 8).map (fun i => (i.zero, i.size, i.bytes)) = some (some (.agg #[.int .i64 0, .int .i64 0, .bool false, .int .u8 0]), 4, 24) := by kernel_rfl
theorem info20 : (Tryd.prog.info? 20).map (fun i => (i.zero, i.size, i.bytes)) = some (some (.nilIface), 1, 16) := by kernel_rfl
theorem info23 : (Tryd.prog.info? 23).map (fun i => (i.zero, i.size, i.bytes)) = some (some (.agg #[.int .i64 0, .int .i64 0, .bool false]), 3, 24) := by kernel_rfl
theorem info24 : (Tryd.prog.info? 24).map (fun i => (i.zero, i.size, i.bytes)) = some (some (.slice none 0 0), 1, 24) := by kernel_rfl
theorem info26 : (Tryd.prog.info? 26).map (fun i => (i.zero, i.size, i.bytes)) = some (some (.agg #[.int .i64 0, .int .i64 0]), 2, 16) := by kernel_rfl
theorem info29 : (Tryd.prog.info? 29).map (fun i => (i.zero, i.size, i.bytes)) = some (some (.nilIface), 1, 16) := by kernel_rfl
theorem info40 : (Tryd.prog.info? 40).map (fun i => (i.zero, i.size, i.bytes)) = some (some (.slice none 0 0), 1, 24) := by kernel_rfl
theorem info44 : (Tryd.prog.info? 44).map (fun i => (i.zero, i.size, i.bytes)) = some (some (.int .i64 0), 1, 8) := by kernel_rfl
theorem info46 : (Tryd.prog.info? 46).map (fun i => (i.zero, i.size, i.bytes)) = some (some (.nilFunc), 1, 8) := by kernel_rfl
theorem info49 : (Tryd.prog.info? 49).map (fun i => (i.zero, i.size, i.bytes)) = some (some (.agg #[.int .i64 0, .int .i64 0]), 2, 16) := by kernel_rfl
theorem info52 : (Tryd.prog.info? 52).map (fun i => (i.zero, i.size, i.bytes)) = some (some (.pointer none), 1, 8) := by kernel_rfl
theorem info56 : (Tryd.prog.info? 56).map (fun i => (i.zero, i.size, i.bytes)) = some (some (.nilFunc), 1, 8) := by kernel_rfl
theorem info63 : (Tryd.prog.info? 63).map (fun i => (i.zero, i.size, i.bytes)) = some (some (.nilFunc), 1, 8) := by kernel_rfl
theorem info71 : (Tryd.prog.info? 71).map (fun i => (i.zero, i.size, i.bytes)) = some (some (.nilIface), 1, 16) := by kernel_rfl
theorem info77 : (Tryd.prog.info? 77).map (fun i => (i.zero, i.size, i.bytes)) = some (some (.nilFunc), 1, 8) := by kernel_rfl
theorem info125 : (Tryd.prog.info? 125).map (fun i => (i.zero, i.size, i.bytes)) = some (some (.pointer none), 1, 8) := by kernel_rfl

theorem ok1 : TdT Tryd.prog 1 (td 1) := by
  obtain ⟨i, hi, hz, hs, hb⟩ := info_of info1
  exact ⟨⟨_, Tryd.underlying1, rfl, ⟨_, _, _, rfl⟩⟩, i, hi, hs, hz, rfl, rfl⟩
theorem ok2 : TdT Tryd.prog 2 (td 2) := by
  obtain ⟨i, hi, hz, hs, hb⟩ := info_of info2
  exact ⟨⟨_, Tryd.underlying2, rfl, rfl⟩, i, hi, hs, hz, rfl, rfl⟩
theorem ok3 : TdT Tryd.prog 3 (td 3) := by
  obtain ⟨i, hi, hz, hs, hb⟩ := info_of info3
  exact ⟨⟨_, Tryd.underlying3, rfl, rfl⟩, i, hi, hs, hz, rfl, rfl⟩
theorem ok4 : TdT Tryd.prog 4 (td 4) := by
  obtain ⟨i, hi, hz, hs, hb⟩ := info_of info4
  exact ⟨⟨_, Tryd.underlying4, rfl, rfl⟩, i, hi, hs, hz, rfl, rfl⟩
theorem ok6 : TdT Tryd.prog 6 (td 6) := by
  obtain ⟨i, hi, hz, hs, hb⟩ := info_of info6
  exact ⟨⟨_, Tryd.underlying6, rfl, rfl⟩, i, hi, hs, hz, rfl, rfl⟩
theorem ok8 : TdT Tryd.prog 8 (td 8) := by
  obtain ⟨i, hi, hz, hs, hb⟩ := info_of info8
  refine ⟨_, i, Tryd.underlying8, hi, hs, hz, rfl, by decide, by simp [Value.oneCell'], rfl, ?_⟩
  intro j f o s g hf hg
  cases j with
  | zero =>
    simp at hf hg
    obtain ⟨rfl, rfl, rfl⟩ := hg
    subst hf
    obtain ⟨j', hj, _, hjs, _⟩ := info_of info2
    exact ⟨rfl, by decide, by decide, ⟨j', hj, hjs⟩, _, Tryd.underlying2, rfl, by decide⟩
  | succ j =>
    cases j with
    | zero =>
      simp at hf hg
      obtain ⟨rfl, rfl, rfl⟩ := hg
      subst hf
      obtain ⟨j', hj, _, hjs, _⟩ := info_of info3
      exact ⟨rfl, by decide, by decide, ⟨j', hj, hjs⟩, _, Tryd.underlying3, rfl, by decide⟩
    | succ j =>
      cases j with
      | zero =>
        simp at hf hg
        obtain ⟨rfl, rfl, rfl⟩ := hg
        subst hf
        obtain ⟨j', hj, _, hjs, _⟩ := info_of info4
        exact ⟨rfl, by decide, by decide, ⟨j', hj, hjs⟩, _, Tryd.underlying4, rfl, by decide⟩
      | succ j =>
        cases j with
        | zero =>
          simp at hf hg
          obtain ⟨rfl, rfl, rfl⟩ := hg
          subst hf
          obtain ⟨j', hj, _, hjs, _⟩ := info_of info6
          exact ⟨rfl, by decide, by decide, ⟨j', hj, hjs⟩, _, Tryd.underlying6, rfl, by decide⟩
        | succ j =>
          simp at hg
theorem ok20 : TdT Tryd.prog 20 (td 20) := by
  obtain ⟨i, hi, hz, hs, hb⟩ := info_of info20
  exact ⟨⟨_, Tryd.underlying20, rfl, ⟨_, rfl⟩⟩, i, hi, hs, hz, rfl, rfl⟩
theorem ok23 : TdT Tryd.prog 23 (td 23) := by
  obtain ⟨i, hi, hz, hs, hb⟩ := info_of info23
  refine ⟨_, i, Tryd.underlying23, hi, hs, hz, rfl, by decide, by simp [Value.oneCell'], rfl, ?_⟩
  intro j f o s g hf hg
  cases j with
  | zero =>
    simp at hf hg
    obtain ⟨rfl, rfl, rfl⟩ := hg
    subst hf
    obtain ⟨j', hj, _, hjs, _⟩ := info_of info3
    exact ⟨rfl, by decide, by decide, ⟨j', hj, hjs⟩, _, Tryd.underlying3, rfl, by decide⟩
  | succ j =>
    cases j with
    | zero =>
      simp at hf hg
      obtain ⟨rfl, rfl, rfl⟩ := hg
      subst hf
      obtain ⟨j', hj, _, hjs, _⟩ := info_of info3
      exact ⟨rfl, by decide, by decide, ⟨j', hj, hjs⟩, _, Tryd.underlying3, rfl, by decide⟩
    | succ j =>
      cases j with
      | zero =>
        simp at hf hg
        obtain ⟨rfl, rfl, rfl⟩ := hg
        subst hf
        obtain ⟨j', hj, _, hjs, _⟩ := info_of info4
        exact ⟨rfl, by decide, by decide, ⟨j', hj, hjs⟩, _, Tryd.underlying4, rfl, by decide⟩
      | succ j =>
        simp at hg
theorem ok24 : TdT Tryd.prog 24 (td 24) := by
  obtain ⟨i, hi, hz, hs, hb⟩ := info_of info24
  obtain ⟨j, hj, hjz, hjs, hjb⟩ := info_of info4
  exact ⟨Tryd.underlying24, by decide, ⟨j, _, hj, hjs, hjb, hjz, rfl⟩, i, hi, hs, hz⟩
theorem ok26 : TdT Tryd.prog 26 (td 26) := by
  obtain ⟨i, hi, hz, hs, hb⟩ := info_of info26
  refine ⟨_, i, Tryd.underlying26, hi, hs, hz, rfl, by decide, by simp [Value.oneCell'], rfl, ?_⟩
  intro j f o s g hf hg
  cases j with
  | zero =>
    simp at hf hg
    obtain ⟨rfl, rfl, rfl⟩ := hg
    subst hf
    obtain ⟨j', hj, _, hjs, _⟩ := info_of info3
    exact ⟨rfl, by decide, by decide, ⟨j', hj, hjs⟩, _, Tryd.underlying3, rfl, by decide⟩
  | succ j =>
    cases j with
    | zero =>
      simp at hf hg
      obtain ⟨rfl, rfl, rfl⟩ := hg
      subst hf
      obtain ⟨j', hj, _, hjs, _⟩ := info_of info3
      exact ⟨rfl, by decide, by decide, ⟨j', hj, hjs⟩, _, Tryd.underlying3, rfl, by decide⟩
    | succ j =>
      simp at hg
theorem ok29 : TdT Tryd.prog 29 (td 29) := by
  obtain ⟨i, hi, hz, hs, hb⟩ := info_of info29
  exact ⟨⟨_, Tryd.underlying29, rfl, ⟨_, rfl⟩⟩, i, hi, hs, hz, rfl, rfl⟩
theorem ok40 : TdT Tryd.prog 40 (td 40) := by
  obtain ⟨i, hi, hz, hs, hb⟩ := info_of info40
  obtain ⟨j, hj, hjz, hjs, hjb⟩ := info_of info3
  exact ⟨Tryd.underlying40, by decide, ⟨j, _, hj, hjs, hjb, hjz, rfl⟩, i, hi, hs, hz⟩
theorem ok44 : TdT Tryd.prog 44 (td 44) := by
  obtain ⟨i, hi, hz, hs, hb⟩ := info_of info44
  exact ⟨⟨_, Tryd.underlying44, rfl, rfl⟩, i, hi, hs, hz, rfl, rfl⟩
theorem ok46 : TdT Tryd.prog 46 (td 46) := by
  obtain ⟨i, hi, hz, hs, hb⟩ := info_of info46
  exact ⟨⟨_, Tryd.underlying46, rfl, ⟨_, _, _, rfl⟩⟩, i, hi, hs, hz, rfl, rfl⟩
theorem ok49 : TdT Tryd.prog 49 (td 49) := by
  obtain ⟨i, hi, hz, hs, hb⟩ := info_of info49
  refine ⟨_, i, Tryd.underlying49, hi, hs, hz, rfl, by decide, by simp [Value.oneCell'], rfl, ?_⟩
  intro j f o s g hf hg
  cases j with
  | zero =>
    simp at hf hg
    obtain ⟨rfl, rfl, rfl⟩ := hg
    subst hf
    obtain ⟨j', hj, _, hjs, _⟩ := info_of info44
    exact ⟨rfl, by decide, by decide, ⟨j', hj, hjs⟩, _, Tryd.underlying44, rfl, by decide⟩
  | succ j =>
    cases j with
    | zero =>
      simp at hf hg
      obtain ⟨rfl, rfl, rfl⟩ := hg
      subst hf
      obtain ⟨j', hj, _, hjs, _⟩ := info_of info3
      exact ⟨rfl, by decide, by decide, ⟨j', hj, hjs⟩, _, Tryd.underlying3, rfl, by decide⟩
    | succ j =>
      simp at hg
theorem ok52 : TdT Tryd.prog 52 (td 52) := by
  obtain ⟨i, hi, hz, hs, hb⟩ := info_of info52
  exact ⟨⟨_, Tryd.underlying52, rfl, ⟨_, rfl⟩⟩, i, hi, hs, hz, rfl, rfl⟩
theorem ok56 : TdT Tryd.prog 56 (td 56) := by
  obtain ⟨i, hi, hz, hs, hb⟩ := info_of info56
  exact ⟨⟨_, Tryd.underlying56, rfl, ⟨_, _, _, rfl⟩⟩, i, hi, hs, hz, rfl, rfl⟩
theorem ok63 : TdT Tryd.prog 63 (td 63) := by
  obtain ⟨i, hi, hz, hs, hb⟩ := info_of info63
  exact ⟨⟨_, Tryd.underlying63, rfl, ⟨_, _, _, rfl⟩⟩, i, hi, hs, hz, rfl, rfl⟩
theorem ok71 : TdT Tryd.prog 71 (td 71) := by
  obtain ⟨i, hi, hz, hs, hb⟩ := info_of info71
  exact ⟨⟨_, Tryd.underlying71, rfl, ⟨_, rfl⟩⟩, i, hi, hs, hz, rfl, rfl⟩
theorem ok77 : TdT Tryd.prog 77 (td 77) := by
  obtain ⟨i, hi, hz, hs, hb⟩ := info_of info77
  exact ⟨⟨_, Tryd.underlying77, rfl, ⟨_, _, _, rfl⟩⟩, i, hi, hs, hz, rfl, rfl⟩
theorem ok125 : TdT Tryd.prog 125 (td 125) := by
  obtain ⟨i, hi, hz, hs, hb⟩ := info_of info125
  exact ⟨⟨_, Tryd.underlying125, rfl, ⟨_, rfl⟩⟩, i, hi, hs, hz, rfl, rfl⟩
theorem tds : ∀ t, TdT Tryd.prog t (td t) := by
  intro t
  unfold td
  split
  · exact ok1
  · exact ok2
  · exact ok3
  · exact ok4
  · exact ok6
  · exact ok8
  · exact ok20
  · exact ok23
  · exact ok24
  · exact ok26
  · exact ok29
  · exact ok40
  · exact ok44
  · exact ok46
  · exact ok49
  · exact ok52
  · exact ok56
  · exact ok63
  · exact ok71
  · exact ok77
  · exact ok125
  · trivial

def conc : Nat → Bool
  | 2 => true
  | 3 => true
  | 4 => true
  | 6 => true
  | 8 => true
  | 23 => true
  | 24 => true
  | 26 => true
  | 40 => true
  | 44 => true
  | 49 => true
  | _ => false
theorem concs : ∀ t, conc t = true → ∃ d, Tryd.prog.underlying t = some d ∧ (match d with | .interface _ => false | _ => true) = true := by
  intro t h
  unfold conc at h
  split at h
  · exact ⟨_, Tryd.underlying2, rfl⟩
  · exact ⟨_, Tryd.underlying3, rfl⟩
  · exact ⟨_, Tryd.underlying4, rfl⟩
  · exact ⟨_, Tryd.underlying6, rfl⟩
  · exact ⟨_, Tryd.underlying8, rfl⟩
  · exact ⟨_, Tryd.underlying23, rfl⟩
  · exact ⟨_, Tryd.underlying24, rfl⟩
  · exact ⟨_, Tryd.underlying26, rfl⟩
  · exact ⟨_, Tryd.underlying40, rfl⟩
  · exact ⟨_, Tryd.underlying44, rfl⟩
  · exact ⟨_, Tryd.underlying49, rfl⟩
  · cases h

def eqs : Nat → List Nat
  | 8 => [0, 0, 1, 0]
  | 23 => [0, 0, 1]
  | 26 => [0, 0]
  | 49 => [0, 0]
  | _ => []
theorem eq8 : Tryd.prog.eqGuardType Tryd.prog.depth 8 = false ∧ Tryd.prog.stoodInHeld 8 = false ∧ ∃ flds, Tryd.prog.underlying 8 = some (.struct flds) ∧ EqFlds Tryd.prog 0 flds.toList (eqs 8) := by
  refine ⟨by kernel_rfl, by kernel_rfl, _, Tryd.underlying8, ?_⟩
  exact ⟨rfl, by decide, ⟨_, Tryd.underlying2, trivial⟩, rfl, by decide, ⟨_, Tryd.underlying3, trivial⟩, rfl, by decide, ⟨_, Tryd.underlying4, trivial⟩, rfl, by decide, ⟨_, Tryd.underlying6, trivial⟩, trivial⟩
theorem eq23 : Tryd.prog.eqGuardType Tryd.prog.depth 23 = false ∧ Tryd.prog.stoodInHeld 23 = false ∧ ∃ flds, Tryd.prog.underlying 23 = some (.struct flds) ∧ EqFlds Tryd.prog 0 flds.toList (eqs 23) := by
  refine ⟨by kernel_rfl, by kernel_rfl, _, Tryd.underlying23, ?_⟩
  exact ⟨rfl, by decide, ⟨_, Tryd.underlying3, trivial⟩, rfl, by decide, ⟨_, Tryd.underlying3, trivial⟩, rfl, by decide, ⟨_, Tryd.underlying4, trivial⟩, trivial⟩
theorem eq26 : Tryd.prog.eqGuardType Tryd.prog.depth 26 = false ∧ Tryd.prog.stoodInHeld 26 = false ∧ ∃ flds, Tryd.prog.underlying 26 = some (.struct flds) ∧ EqFlds Tryd.prog 0 flds.toList (eqs 26) := by
  refine ⟨by kernel_rfl, by kernel_rfl, _, Tryd.underlying26, ?_⟩
  exact ⟨rfl, by decide, ⟨_, Tryd.underlying3, trivial⟩, rfl, by decide, ⟨_, Tryd.underlying3, trivial⟩, trivial⟩
theorem eq49 : Tryd.prog.eqGuardType Tryd.prog.depth 49 = false ∧ Tryd.prog.stoodInHeld 49 = false ∧ ∃ flds, Tryd.prog.underlying 49 = some (.struct flds) ∧ EqFlds Tryd.prog 0 flds.toList (eqs 49) := by
  refine ⟨by kernel_rfl, by kernel_rfl, _, Tryd.underlying49, ?_⟩
  exact ⟨rfl, by decide, ⟨_, Tryd.underlying44, trivial⟩, rfl, by decide, ⟨_, Tryd.underlying3, trivial⟩, trivial⟩
theorem eqss : ∀ t, eqs t ≠ [] → Tryd.prog.eqGuardType Tryd.prog.depth t = false ∧ Tryd.prog.stoodInHeld t = false ∧ ∃ flds, Tryd.prog.underlying t = some (.struct flds) ∧ EqFlds Tryd.prog 0 flds.toList (eqs t) := by
  intro t h
  unfold eqs at h
  split at h
  · exact eq8
  · exact eq23
  · exact eq26
  · exact eq49
  · exact absurd rfl h

/-- The functions. -/
noncomputable def fns : Nat → Option Func
  | 3 => some Tryd.f3
  | 4 => some Tryd.f4
  | 5 => some Tryd.f5
  | 6 => some Tryd.f6
  | 7 => some Tryd.f7
  | 8 => some Tryd.f8
  | 9 => some Tryd.f9
  | 10 => some Tryd.f10
  | 11 => some Tryd.f11
  | 12 => some Tryd.f12
  | 13 => some Tryd.f13
  | 14 => some Tryd.f14
  | 15 => some Tryd.f15
  | 16 => some Tryd.f16
  | 17 => some Tryd.f17
  | 18 => some Tryd.f18
  | 19 => some Tryd.f19
  | 20 => some Tryd.f20
  | 21 => some Tryd.f21
  | 23 => some Tryd.f23
  | 24 => some Tryd.f24
  | 25 => some Tryd.f25
  | 26 => some Tryd.f26
  | 27 => some Tryd.f27
  | 28 => some Tryd.f28
  | 29 => some Tryd.f29
  | 30 => some Tryd.f30
  | 31 => some Tryd.f31
  | 32 => some Tryd.f32
  | 33 => some Tryd.f33
  | 34 => some Tryd.f34
  | 35 => some Tryd.f35
  | 41 => some Tryd.f41
  | 42 => some Tryd.f42
  | 66 => some Tryd.f66
  | 85 => some Tryd.f85
  | _ => none
theorem fnss : ∀ n fn, fns n = some fn → Tryd.prog.funcs[n]? = some fn ∧ fn.body.isSome = true ∧ (fn.name == "runtime.NumGoroutine") = false := by
  intro n fn h
  unfold fns at h
  split at h
  · cases h; exact ⟨Tryd.func3, rfl, by decide⟩
  · cases h; exact ⟨Tryd.func4, rfl, by decide⟩
  · cases h; exact ⟨Tryd.func5, rfl, by decide⟩
  · cases h; exact ⟨Tryd.func6, rfl, by decide⟩
  · cases h; exact ⟨Tryd.func7, rfl, by decide⟩
  · cases h; exact ⟨Tryd.func8, rfl, by decide⟩
  · cases h; exact ⟨Tryd.func9, rfl, by decide⟩
  · cases h; exact ⟨Tryd.func10, rfl, by decide⟩
  · cases h; exact ⟨Tryd.func11, rfl, by decide⟩
  · cases h; exact ⟨Tryd.func12, rfl, by decide⟩
  · cases h; exact ⟨Tryd.func13, rfl, by decide⟩
  · cases h; exact ⟨Tryd.func14, rfl, by decide⟩
  · cases h; exact ⟨Tryd.func15, rfl, by decide⟩
  · cases h; exact ⟨Tryd.func16, rfl, by decide⟩
  · cases h; exact ⟨Tryd.func17, rfl, by decide⟩
  · cases h; exact ⟨Tryd.func18, rfl, by decide⟩
  · cases h; exact ⟨Tryd.func19, rfl, by decide⟩
  · cases h; exact ⟨Tryd.func20, rfl, by decide⟩
  · cases h; exact ⟨Tryd.func21, rfl, by decide⟩
  · cases h; exact ⟨Tryd.func23, rfl, by decide⟩
  · cases h; exact ⟨Tryd.func24, rfl, by decide⟩
  · cases h; exact ⟨Tryd.func25, rfl, by decide⟩
  · cases h; exact ⟨Tryd.func26, rfl, by decide⟩
  · cases h; exact ⟨Tryd.func27, rfl, by decide⟩
  · cases h; exact ⟨Tryd.func28, rfl, by decide⟩
  · cases h; exact ⟨Tryd.func29, rfl, by decide⟩
  · cases h; exact ⟨Tryd.func30, rfl, by decide⟩
  · cases h; exact ⟨Tryd.func31, rfl, by decide⟩
  · cases h; exact ⟨Tryd.func32, rfl, by decide⟩
  · cases h; exact ⟨Tryd.func33, rfl, by decide⟩
  · cases h; exact ⟨Tryd.func34, rfl, by decide⟩
  · cases h; exact ⟨Tryd.func35, rfl, by decide⟩
  · cases h; exact ⟨Tryd.func41, rfl, by decide⟩
  · cases h; exact ⟨Tryd.func42, rfl, by decide⟩
  · cases h; exact ⟨Tryd.func66, rfl, by decide⟩
  · cases h; exact ⟨Tryd.func85, rfl, by decide⟩
  · cases h

/-- Slots that nothing looks at any more, at each loop's head and behind it. -/
def kl : List (List Nat × List Nat × List Nat) := [([54, 55, 59, 60, 61, 62, 63, 64, 65, 66, 58, 67, 68, 13, 70, 71, 72, 73, 74, 75, 76, 77, 69, 78, 79, 15, 80, 81, 82, 83, 84, 85, 86, 87, 88, 56, 57], [0, 1, 2, 4, 6, 7, 8, 9, 10, 11, 13, 14, 15, 16, 17, 18, 19, 20, 21, 22, 23, 24, 25, 26, 27, 28, 29, 30, 31, 32, 33, 34, 35, 36, 37, 38, 39, 40, 41, 42, 43, 44, 45, 46, 47, 48, 49, 50, 51, 52, 53, 54, 55, 56, 57, 58, 59, 60, 61, 62, 63, 64, 65, 66, 67, 68, 69, 70, 71, 72, 73, 74, 75, 76, 77, 78, 79, 80, 81, 82, 83, 84, 85, 86, 87, 88], [0, 1, 2, 3, 4, 5, 7, 8, 9, 10, 11, 12, 13, 14, 15, 16, 17, 18, 19, 20, 21, 22, 23, 24, 25, 26, 27, 28, 29, 30, 31, 32, 33, 34, 35, 36, 37, 38, 39, 40, 41, 42, 43, 44, 45, 46, 47, 48, 49, 50, 51, 52, 53, 54, 55, 56, 57, 58, 59, 60, 61, 62, 63, 64, 65, 66, 67, 68, 69, 70, 71, 72, 73, 74, 75, 76, 77, 78, 79, 80, 81, 82, 83, 84, 85, 86, 87, 88]),
  ([53, 54, 55, 56, 59, 60, 61, 62, 65, 66, 67, 68, 69, 70, 71, 72, 73, 74, 75, 76, 10, 77, 78, 79, 80, 81, 82, 83, 84, 85, 86, 87, 88, 89, 90, 91, 92, 93, 94, 95, 96, 97, 98, 99, 100, 101, 102, 103, 104, 105, 106, 107, 108, 109, 110, 111, 112, 113, 114, 115, 116, 117, 118, 119, 120, 121, 122, 123, 124, 125, 126, 127, 128, 129, 130, 131, 132, 133, 134, 135, 136, 137, 138, 139, 140, 63, 64, 57, 58], [0, 1, 2, 3, 4, 5, 6, 9, 10, 11, 12, 13, 14, 15, 16, 17, 18, 19, 20, 21, 22, 23, 24, 25, 26, 27, 28, 29, 30, 31, 32, 33, 34, 35, 36, 37, 38, 39, 40, 41, 42, 43, 44, 45, 46, 47, 48, 49, 50, 51, 52, 53, 54, 55, 56, 57, 58, 59, 60, 61, 62, 63, 64, 65, 66, 67, 68, 69, 70, 71, 72, 73, 74, 75, 76, 77, 78, 79, 80, 81, 82, 83, 84, 85, 86, 87, 88, 89, 90, 91, 92, 93, 94, 95, 96, 97, 98, 99, 100, 101, 102, 103, 104, 105, 106, 107, 108, 109, 110, 111, 112, 113, 114, 115, 116, 117, 118, 119, 120, 121, 122, 123, 124, 125, 126, 127, 128, 129, 130, 131, 132, 133, 134, 135, 136, 137, 138, 139, 140, 141, 142, 143, 144, 145, 146, 147, 148, 149, 150, 151, 152, 153, 154, 155, 156, 157, 158, 159, 160, 161, 162, 163, 164, 165, 166, 167, 168, 169, 170, 171, 172, 173, 174, 175, 176, 177, 178, 179, 180, 181, 182, 183, 184], [1, 2, 3, 4, 5, 6, 7, 8, 9, 10, 11, 12, 13, 14, 15, 16, 17, 18, 19, 20, 21, 22, 23, 24, 25, 26, 27, 28, 29, 30, 31, 32, 33, 34, 35, 36, 37, 38, 39, 40, 41, 42, 43, 44, 45, 46, 47, 48, 49, 50, 51, 52, 53, 54, 55, 56, 57, 58, 59, 60, 61, 62, 63, 64, 65, 66, 67, 68, 69, 70, 71, 72, 73, 74, 75, 76, 77, 78, 79, 80, 81, 82, 83, 84, 85, 86, 87, 88, 89, 90, 91, 92, 93, 94, 95, 96, 97, 98, 99, 100, 101, 102, 103, 104, 105, 106, 107, 108, 109, 110, 111, 112, 113, 114, 115, 116, 117, 118, 119, 120, 121, 122, 123, 124, 125, 126, 127, 128, 129, 130, 131, 132, 133, 134, 135, 136, 137, 138, 139, 140, 141, 142, 143, 144, 145, 146, 147, 148, 149, 150, 151, 152, 153, 154, 155, 156, 157, 158, 159, 160, 161, 162, 163, 164, 165, 166, 167, 168, 169, 170, 171, 172, 173, 174, 175, 176, 177, 178, 179, 180, 181, 182, 183, 184]),
  ([59, 60, 61, 62, 65, 66, 67, 68, 69, 70, 71, 72, 73, 74, 75, 76, 10, 77, 78, 79, 80, 81, 82, 83, 84, 85, 86, 87, 88, 89, 90, 91, 92, 93, 94, 95, 96, 97, 98, 99, 100, 101, 102, 103, 104, 105, 106, 107, 108, 109, 110, 111, 112, 113, 114, 115, 116, 117, 118, 119, 120, 121, 122, 123, 124, 125, 126, 127, 128, 129, 130, 131, 132, 133, 134, 135, 136, 137, 138, 139, 140, 63, 64], [0, 1, 2, 3, 4, 5, 6, 10, 11, 12, 13, 14, 15, 16, 17, 18, 19, 20, 21, 22, 23, 24, 25, 26, 27, 28, 29, 30, 31, 32, 33, 34, 35, 36, 37, 38, 39, 40, 41, 42, 43, 44, 45, 46, 47, 48, 49, 50, 51, 52, 53, 54, 55, 56, 57, 58, 59, 60, 61, 62, 63, 64, 65, 66, 67, 68, 69, 70, 71, 72, 73, 74, 75, 76, 77, 78, 79, 80, 81, 82, 83, 84, 85, 86, 87, 88, 89, 90, 91, 92, 93, 94, 95, 96, 97, 98, 99, 100, 101, 102, 103, 104, 105, 106, 107, 108, 109, 110, 111, 112, 113, 114, 115, 116, 117, 118, 119, 120, 121, 122, 123, 124, 125, 126, 127, 128, 129, 130, 131, 132, 133, 134, 135, 136, 137, 138, 139, 140, 141, 142, 143, 144, 145, 146, 147, 148, 149, 150, 151, 152, 153, 154, 155, 156, 157, 158, 159, 160, 161, 162, 163, 164, 165, 166, 167, 168, 169, 170, 171, 172, 173, 174, 175, 176, 177, 178, 179, 180, 181, 182, 183, 184], [1, 2, 3, 4, 5, 6, 9, 10, 11, 12, 13, 14, 15, 16, 17, 18, 19, 20, 21, 22, 23, 24, 25, 26, 27, 28, 29, 30, 31, 32, 33, 34, 35, 36, 37, 38, 39, 40, 41, 42, 43, 44, 45, 46, 47, 48, 49, 50, 51, 52, 53, 54, 55, 56, 57, 58, 59, 60, 61, 62, 63, 64, 65, 66, 67, 68, 69, 70, 71, 72, 73, 74, 75, 76, 77, 78, 79, 80, 81, 82, 83, 84, 85, 86, 87, 88, 89, 90, 91, 92, 93, 94, 95, 96, 97, 98, 99, 100, 101, 102, 103, 104, 105, 106, 107, 108, 109, 110, 111, 112, 113, 114, 115, 116, 117, 118, 119, 120, 121, 122, 123, 124, 125, 126, 127, 128, 129, 130, 131, 132, 133, 134, 135, 136, 137, 138, 139, 140, 141, 142, 143, 144, 145, 146, 147, 148, 149, 150, 151, 152, 153, 154, 155, 156, 157, 158, 159, 160, 161, 162, 163, 164, 165, 166, 167, 168, 169, 170, 171, 172, 173, 174, 175, 176, 177, 178, 179, 180, 181, 182, 183, 184]),
  ([141, 142, 145, 146, 149, 150, 151, 152, 153, 154, 155, 156, 147, 148, 157, 158, 159, 160, 161, 162, 163, 164, 165, 166, 167, 168, 169, 170, 171, 172, 173, 174, 175, 176, 177, 178, 179, 180, 181, 182, 183, 184, 143, 144], [0, 1, 2, 3, 4, 5, 6, 7, 8, 9, 10, 11, 13, 14, 15, 16, 17, 18, 19, 20, 21, 22, 23, 24, 25, 26, 27, 28, 29, 30, 31, 32, 33, 34, 35, 36, 37, 38, 39, 40, 41, 42, 43, 44, 45, 46, 47, 48, 49, 50, 51, 52, 53, 54, 55, 56, 57, 58, 59, 60, 61, 62, 63, 64, 65, 66, 67, 68, 69, 70, 71, 72, 73, 74, 75, 76, 77, 78, 79, 80, 81, 82, 83, 84, 85, 86, 87, 88, 89, 90, 91, 92, 93, 94, 95, 96, 97, 98, 99, 100, 101, 102, 103, 104, 105, 106, 107, 108, 109, 110, 111, 112, 113, 114, 115, 116, 117, 118, 119, 120, 121, 122, 123, 124, 125, 126, 127, 128, 129, 130, 131, 132, 133, 134, 135, 136, 137, 138, 139, 140, 141, 142, 143, 144, 145, 146, 147, 148, 149, 150, 151, 152, 153, 154, 155, 156, 157, 158, 159, 160, 161, 162, 163, 164, 165, 166, 167, 168, 169, 170, 171, 172, 173, 174, 175, 176, 177, 178, 179, 180, 181, 182, 183, 184], [1, 2, 3, 4, 5, 6, 7, 8, 9, 10, 11, 12, 13, 14, 15, 16, 17, 18, 19, 20, 21, 22, 23, 24, 25, 26, 27, 28, 29, 30, 31, 32, 33, 34, 35, 36, 37, 38, 39, 40, 41, 42, 43, 44, 45, 46, 47, 48, 49, 50, 51, 52, 53, 54, 55, 56, 57, 58, 59, 60, 61, 62, 63, 64, 65, 66, 67, 68, 69, 70, 71, 72, 73, 74, 75, 76, 77, 78, 79, 80, 81, 82, 83, 84, 85, 86, 87, 88, 89, 90, 91, 92, 93, 94, 95, 96, 97, 98, 99, 100, 101, 102, 103, 104, 105, 106, 107, 108, 109, 110, 111, 112, 113, 114, 115, 116, 117, 118, 119, 120, 121, 122, 123, 124, 125, 126, 127, 128, 129, 130, 131, 132, 133, 134, 135, 136, 137, 138, 139, 140, 141, 142, 143, 144, 145, 146, 147, 148, 149, 150, 151, 152, 153, 154, 155, 156, 157, 158, 159, 160, 161, 162, 163, 164, 165, 166, 167, 168, 169, 170, 171, 172, 173, 174, 175, 176, 177, 178, 179, 180, 181, 182, 183, 184]),
  ([145, 146, 149, 150, 151, 152, 153, 154, 155, 156, 147, 148], [0, 1, 2, 3, 4, 5, 6, 7, 8, 9, 10, 11, 15, 16, 17, 18, 19, 20, 21, 22, 23, 24, 25, 26, 27, 28, 29, 30, 31, 32, 33, 34, 35, 36, 37, 38, 39, 40, 41, 42, 43, 44, 45, 46, 47, 48, 49, 50, 51, 52, 53, 54, 55, 56, 57, 58, 59, 60, 61, 62, 63, 64, 65, 66, 67, 68, 69, 70, 71, 72, 73, 74, 75, 76, 77, 78, 79, 80, 81, 82, 83, 84, 85, 86, 87, 88, 89, 90, 91, 92, 93, 94, 95, 96, 97, 98, 99, 100, 101, 102, 103, 104, 105, 106, 107, 108, 109, 110, 111, 112, 113, 114, 115, 116, 117, 118, 119, 120, 121, 122, 123, 124, 125, 126, 127, 128, 129, 130, 131, 132, 133, 134, 135, 136, 137, 138, 139, 140, 141, 142, 143, 144, 145, 146, 147, 148, 149, 150, 151, 152, 153, 154, 155, 156, 157, 158, 159, 160, 161, 162, 163, 164, 165, 166, 167, 168, 169, 170, 171, 172, 173, 174, 175, 176, 177, 178, 179, 180, 181, 182, 183, 184], [1, 2, 3, 4, 5, 6, 7, 8, 9, 10, 11, 14, 15, 16, 17, 18, 19, 20, 21, 22, 23, 24, 25, 26, 27, 28, 29, 30, 31, 32, 33, 34, 35, 36, 37, 38, 39, 40, 41, 42, 43, 44, 45, 46, 47, 48, 49, 50, 51, 52, 53, 54, 55, 56, 57, 58, 59, 60, 61, 62, 63, 64, 65, 66, 67, 68, 69, 70, 71, 72, 73, 74, 75, 76, 77, 78, 79, 80, 81, 82, 83, 84, 85, 86, 87, 88, 89, 90, 91, 92, 93, 94, 95, 96, 97, 98, 99, 100, 101, 102, 103, 104, 105, 106, 107, 108, 109, 110, 111, 112, 113, 114, 115, 116, 117, 118, 119, 120, 121, 122, 123, 124, 125, 126, 127, 128, 129, 130, 131, 132, 133, 134, 135, 136, 137, 138, 139, 140, 141, 142, 143, 144, 145, 146, 147, 148, 149, 150, 151, 152, 153, 154, 155, 156, 157, 158, 159, 160, 161, 162, 163, 164, 165, 166, 167, 168, 169, 170, 171, 172, 173, 174, 175, 176, 177, 178, 179, 180, 181, 182, 183, 184]),
  ([18, 19, 20, 21, 25, 26, 27, 28, 29, 30, 31, 32, 24, 33, 34, 11, 35, 22, 23], [0, 5, 6, 7, 9, 11, 12, 13, 14, 15, 16, 17, 18, 19, 20, 21, 22, 23, 24, 25, 26, 27, 28, 29, 30, 31, 32, 33, 34, 35, 36], [0, 1, 2, 3, 5, 6, 7, 10, 11, 12, 13, 14, 15, 16, 17, 18, 19, 20, 21, 22, 23, 24, 25, 26, 27, 28, 29, 30, 31, 32, 33, 34, 35, 36]),
  ([45, 46, 47, 48, 51, 52, 53, 54, 55, 56, 57, 58, 49, 50], [0, 1, 2, 3, 4, 5, 6, 12, 13, 14, 15, 16, 17, 18, 19, 20, 21, 22, 23, 24, 25, 26, 27, 28, 29, 30, 31, 32, 33, 34, 35, 36, 37, 38, 39, 40, 41, 42, 43, 44, 45, 46, 47, 48, 49, 50, 51, 52, 53, 54, 55, 56, 57, 58, 59, 60, 61, 62, 63, 64, 65, 66, 67, 68, 69, 70, 71, 72, 73, 74, 75, 76, 77, 78, 79, 80, 81, 82, 83, 84, 85, 86, 87, 88, 89, 90, 91, 92, 93, 94, 95, 96, 97, 98, 99, 100, 101], [0, 1, 2, 3, 4, 5, 7, 11, 12, 13, 14, 15, 16, 17, 18, 19, 20, 21, 22, 23, 24, 25, 26, 27, 28, 29, 30, 31, 32, 33, 34, 35, 36, 37, 38, 39, 40, 41, 42, 43, 44, 45, 46, 47, 48, 49, 50, 51, 52, 53, 54, 55, 56, 57, 58, 59, 60, 61, 62, 63, 64, 65, 66, 67, 68, 69, 70, 71, 72, 73, 74, 75, 76, 77, 78, 79, 80, 81, 82, 83, 84, 85, 86, 87, 88, 89, 90, 91, 92, 93, 94, 95, 96, 97, 98, 99, 100, 101]),
  ([59, 60, 13, 14, 63, 81, 82, 83, 84, 85, 86, 87, 88, 89, 90, 91, 92, 93, 94, 95, 96, 97, 98, 99, 100, 101, 12, 61, 62], [0, 1, 2, 3, 4, 5, 6, 7, 11, 13, 14, 15, 16, 17, 18, 19, 20, 21, 22, 23, 24, 25, 26, 27, 28, 29, 30, 31, 32, 33, 34, 35, 36, 37, 38, 39, 40, 41, 42, 43, 44, 45, 46, 47, 48, 49, 50, 51, 52, 53, 54, 55, 56, 57, 58, 59, 60, 61, 62, 63, 64, 65, 66, 67, 68, 69, 70, 71, 72, 73, 74, 75, 76, 77, 78, 79, 80, 81, 82, 83, 84, 85, 86, 87, 88, 89, 90, 91, 92, 93, 94, 95, 96, 97, 98, 99, 100, 101], [0, 1, 2, 3, 4, 5, 7, 8, 9, 10, 11, 12, 13, 14, 15, 16, 17, 18, 19, 20, 21, 22, 23, 24, 25, 26, 27, 28, 29, 30, 31, 32, 33, 34, 35, 36, 37, 38, 39, 40, 41, 42, 43, 44, 45, 46, 47, 48, 49, 50, 51, 52, 53, 54, 55, 56, 57, 58, 59, 60, 61, 62, 63, 64, 65, 66, 67, 68, 69, 70, 71, 72, 73, 74, 75, 76, 77, 78, 79, 80, 81, 82, 83, 84, 85, 86, 87, 88, 89, 90, 91, 92, 93, 94, 95, 96, 97, 98, 99, 100, 101]),
  ([22, 23, 24, 25, 28, 29, 30, 26, 27], [0, 1, 2, 4, 5, 6, 11, 12, 13, 14, 15, 16, 17, 18, 19, 20, 21, 22, 23, 24, 25, 26, 27, 28, 29, 30, 31, 32, 33, 34, 35, 36, 37, 38, 39, 40, 41, 42, 43, 44, 45, 46, 47, 48, 49, 50, 51, 52, 53, 54, 55, 56, 57, 58, 59, 60, 61, 62, 63, 64, 65, 66, 67, 68, 69, 70, 71, 72, 73, 74, 75, 76, 77, 78, 79, 80, 81, 82, 83, 84, 85, 86, 87, 88, 89, 90, 91, 92, 93, 94, 95, 96, 97, 98, 99, 100, 101], [0, 1, 2, 4, 5, 10, 11, 12, 13, 14, 15, 16, 17, 18, 19, 20, 21, 22, 23, 24, 25, 26, 27, 28, 29, 30, 31, 32, 33, 34, 35, 36, 37, 38, 39, 40, 41, 42, 43, 44, 45, 46, 47, 48, 49, 50, 51, 52, 53, 54, 55, 56, 57, 58, 59, 60, 61, 62, 63, 64, 65, 66, 67, 68, 69, 70, 71, 72, 73, 74, 75, 76, 77, 78, 79, 80, 81, 82, 83, 84, 85, 86, 87, 88, 89, 90, 91, 92, 93, 94, 95, 96, 97, 98, 99, 100, 101]),
  ([31, 32, 33, 34, 37, 38, 39, 35, 36], [0, 1, 2, 4, 5, 6, 10, 12, 13, 14, 15, 16, 17, 18, 19, 20, 21, 22, 23, 24, 25, 26, 27, 28, 29, 30, 31, 32, 33, 34, 35, 36, 37, 38, 39, 40, 41, 42, 43, 44, 45, 46, 47, 48, 49, 50, 51, 52, 53, 54, 55, 56, 57, 58, 59, 60, 61, 62, 63, 64, 65, 66, 67, 68, 69, 70, 71, 72, 73, 74, 75, 76, 77, 78, 79, 80, 81, 82, 83, 84, 85, 86, 87, 88, 89, 90, 91, 92, 93, 94, 95, 96, 97, 98, 99, 100, 101], [0, 1, 2, 4, 5, 10, 11, 12, 13, 14, 15, 16, 17, 18, 19, 20, 21, 22, 23, 24, 25, 26, 27, 28, 29, 30, 31, 32, 33, 34, 35, 36, 37, 38, 39, 40, 41, 42, 43, 44, 45, 46, 47, 48, 49, 50, 51, 52, 53, 54, 55, 56, 57, 58, 59, 60, 61, 62, 63, 64, 65, 66, 67, 68, 69, 70, 71, 72, 73, 74, 75, 76, 77, 78, 79, 80, 81, 82, 83, 84, 85, 86, 87, 88, 89, 90, 91, 92, 93, 94, 95, 96, 97, 98, 99, 100, 101]),
  ([6, 7, 8, 9, 12, 13, 14, 15, 16, 17, 18, 10, 11], [1, 2, 5, 6, 7, 8, 9, 10, 11, 12, 13, 14, 15, 16, 17, 18, 19, 20, 21, 22, 23, 24, 25, 26, 27, 28], [0, 1, 4, 5, 6, 7, 8, 9, 10, 11, 12, 13, 14, 15, 16, 17, 18, 19, 20, 21, 22, 23, 24, 25, 26, 27, 28]),
  ([19, 20, 23, 24, 25, 26, 27, 21, 22], [0, 1, 2, 4, 6, 7, 8, 9, 10, 11, 12, 13, 14, 15, 16, 17, 18, 19, 20, 21, 22, 23, 24, 25, 26, 27, 28], [0, 1, 4, 5, 6, 7, 8, 9, 10, 11, 12, 13, 14, 15, 16, 17, 18, 19, 20, 21, 22, 23, 24, 25, 26, 27, 28]),
  ([7, 8, 11, 12, 13, 14, 15, 16, 17, 9, 10], [1, 2, 5, 6, 7, 8, 9, 10, 11, 12, 13, 14, 15, 16, 17, 18, 19, 20, 21, 22, 23, 24, 25], [1, 4, 5, 6, 7, 8, 9, 10, 11, 12, 13, 14, 15, 16, 17, 18, 19, 20, 21, 22, 23, 24, 25]),
  ([13, 14, 15, 16, 19, 20, 21, 22, 23, 24, 25, 26, 27, 28, 29, 30, 31, 32, 33, 34, 35, 36, 37, 17, 18], [2, 3, 4, 6, 7, 8, 9, 10, 11, 12, 13, 14, 15, 16, 17, 18, 19, 20, 21, 22, 23, 24, 25, 26, 27, 28, 29, 30, 31, 32, 33, 34, 35, 36, 37], [0, 1, 2, 3, 5, 6, 7, 8, 9, 10, 11, 12, 13, 14, 15, 16, 17, 18, 19, 20, 21, 22, 23, 24, 25, 26, 27, 28, 29, 30, 31, 32, 33, 34, 35, 36, 37]),
  ([15, 16, 17, 18, 19, 20, 21, 22, 23, 27, 28, 29, 30, 31, 32, 33, 34, 26, 35, 36, 13, 37, 38, 39, 40, 41, 42, 43, 44, 45, 46, 47, 48, 49, 50, 51, 24, 25], [0, 5, 6, 7, 8, 9, 13, 14, 15, 16, 17, 18, 19, 20, 21, 22, 23, 24, 25, 26, 27, 28, 29, 30, 31, 32, 33, 34, 35, 36, 37, 38, 39, 40, 41, 42, 43, 44, 45, 46, 47, 48, 49, 50, 51, 52, 53], [0, 1, 2, 3, 4, 5, 6, 7, 12, 13, 14, 15, 16, 17, 18, 19, 20, 21, 22, 23, 24, 25, 26, 27, 28, 29, 30, 31, 32, 33, 34, 35, 36, 37, 38, 39, 40, 41, 42, 43, 44, 45, 46, 47, 48, 49, 50, 51, 52, 53]),
  ([11, 12, 13, 14, 17, 18, 19, 20, 21, 22, 23, 24, 25, 15, 16], [2, 3, 4, 6, 7, 8, 9, 10, 11, 12, 13, 14, 15, 16, 17, 18, 19, 20, 21, 22, 23, 24, 25], [0, 1, 2, 3, 5, 6, 7, 8, 9, 10, 11, 12, 13, 14, 15, 16, 17, 18, 19, 20, 21, 22, 23, 24, 25]),
  ([5, 6, 7, 8, 11, 12, 13, 14, 15, 16, 17, 9, 10], [1, 2, 5, 6, 7, 8, 9, 10, 11, 12, 13, 14, 15, 16, 17, 18], [0, 1, 4, 5, 6, 7, 8, 9, 10, 11, 12, 13, 14, 15, 16, 17, 18]),
  ([8, 9, 10, 11, 14, 15, 16, 17, 18, 19, 20, 21, 22, 23, 24, 12, 13], [2, 3, 4, 8, 9, 10, 11, 12, 13, 14, 15, 16, 17, 18, 19, 20, 21, 22, 23, 24, 25], [0, 1, 2, 3, 5, 7, 8, 9, 10, 11, 12, 13, 14, 15, 16, 17, 18, 19, 20, 21, 22, 23, 24, 25]),
  ([11, 12, 13, 14, 15, 16, 17, 18, 19, 20, 21, 22, 23, 24, 25, 10], [1, 5, 6, 7, 11, 12, 13, 14, 15, 16, 17, 18, 19, 20, 21, 22, 23, 24, 25], [0, 1, 2, 3, 4, 5, 6, 7, 8, 9, 10, 11, 12, 13, 14, 15, 16, 17, 18, 19, 20, 21, 22, 23, 24, 25])]
/-- The sizes of the elements of slices within a type's cells. -/
def zz : Nat → List Nat
  | 24 => [1]
  | 40 => [1]
  | _ => []
/-- The table, with summaries of functions. -/
noncomputable def ctx (m : Nat → Option (List AV → Option (AV × List Blk))) : Ctx := ⟨td, conc, eqs, fns, zz, kl, m⟩
theorem ctx_ok {G : World → Prop} (m : Nat → Option (List AV → Option (AV × List Blk))) (hm : ∀ n f, m n = some f → Models Tryd.prog G n f ∧ ∃ fn, Tryd.prog.funcs[n]? = some fn ∧ fn.body.isSome = true ∧ (fn.name == "runtime.NumGoroutine") = false) : CtxOk Tryd.prog (ctx m) G :=
  ⟨TdOk.of tds concs, hm, eqss, fnss⟩
end Go.Proofs.YtkifbcjmmkbilaaDoor.AvT
