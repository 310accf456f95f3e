/- The table of types and functions of this program, for the interpreter over plain values; written by a program, proved by Lean. -/
import Derived.Test.YtkifbcjmmkbilaaProg
import Derived.Test.YtkifbcjmmkbilaaChecked
import Derived.Test.YtkifbcjmmkbilaaAvM
set_option maxRecDepth 100000
set_option linter.unusedVariables false
namespace Go.Proofs.Ytkifbcjmmkbilaa.AvT
open Go Go.RowKit Go.Proofs.Ytkifbcjmmkbilaa.Av

/-- What a type is. -/
def td : Nat → TD
  | 1 => .one (.nilFunc)
  | 2 => .one (.int .i64 0)
  | 3 => .one (.int .i64 0)
  | 4 => .one (.bool false)
  | 23 => .agg 3 [(0, 1, false), (1, 1, false), (2, 1, false)] [.int .i64 0, .int .i64 0, .bool false]
  | 24 => .sl 4 1 1
  | 26 => .agg 2 [(0, 1, false), (1, 1, false)] [.int .i64 0, .int .i64 0]
  | 30 => .one (.nilIface)
  | 38 => .one (.nilFunc)
  | 40 => .sl 3 1 8
  | 48 => .one (.int .i64 0)
  | 50 => .one (.nilFunc)
  | 52 => .one (.nilFunc)
  | 55 => .one (.nilFunc)
  | _ => .no

theorem info1 : (Try.prog.info? 1).map (fun i => (i.zero, i.size, i.bytes)) = some (some (.nilFunc), 1, 8) := by kernel_rfl
theorem info2 : (Try.prog.info? 2).map (fun i => (i.zero, i.size, i.bytes)) = some (some (.int .i64 0), 1, 8) := by kernel_rfl
theorem info3 : (Try.prog.info? 3).map (fun i => (i.zero, i.size, i.bytes)) = some (some (.int .i64 0), 1, 8) := by kernel_rfl
theorem info4 : (Try.prog.info? 4).map (fun i => (i.zero, i.size, i.bytes)) = some (some (.bool false), 1, 1) := by kernel_rfl
theorem info23 : (Try.prog.info? 23).map (fun i => (i.zero, i.size, i.bytes)) = some (some (.agg #[.int .i64 0, .int .i64 0, .bool false]), 3, 24) := by kernel_rfl
theorem info24 : (Try.prog.info? 24).map (fun i => (i.zero, i.size, i.bytes)) = some (some (.slice none 0 0), 1, 24) := by kernel_rfl
theorem info26 : (Try.prog.info? 26).map (fun i => (i.zero, i.size, i.bytes)) = some (some (.agg #[.int .i64 0, .int .i64 0]), 2, 16) := by kernel_rfl
theorem info30 : (Try.prog.info? 30).map (fun i => (i.zero, i.size, i.bytes)) = some (some (.nilIface), 1, 16) := by kernel_rfl
theorem info38 : (Try.prog.info? 38).map (fun i => (i.zero, i.size, i.bytes)) = some (some (.nilFunc), 1, 8) := by kernel_rfl
theorem info40 : (Try.prog.info? 40).map (fun i => (i.zero, i.size, i.bytes)) = some (some (.slice none 0 0), 1, 24) := by kernel_rfl
theorem info48 : (Try.prog.info? 48).map (fun i => (i.zero, i.size, i.bytes)) = some (some (.int .i64 0), 1, 8) := by kernel_rfl
theorem info50 : (Try.prog.info? 50).map (fun i => (i.zero, i.size, i.bytes)) = some (some (.nilFunc), 1, 8) := by kernel_rfl
theorem info52 : (Try.prog.info? 52).map (fun i => (i.zero, i.size, i.bytes)) = some (some (.nilFunc), 1, 8) := by kernel_rfl
theorem info55 : (Try.prog.info? 55).map (fun i => (i.zero, i.size, i.bytes)) = some (some (.nilFunc), 1, 8) := by kernel_rfl

theorem ok1 : TdT Try.prog 1 (td 1) := by
  obtain ⟨i, hi, hz, hs, hb⟩ := info_of info1
  exact ⟨⟨_, Try.underlying1, rfl, ⟨_, _, _, rfl⟩⟩, i, hi, hs, hz, rfl, rfl⟩
theorem ok2 : TdT Try.prog 2 (td 2) := by
  obtain ⟨i, hi, hz, hs, hb⟩ := info_of info2
  exact ⟨⟨_, Try.underlying2, rfl, rfl⟩, i, hi, hs, hz, rfl, rfl⟩
theorem ok3 : TdT Try.prog 3 (td 3) := by
  obtain ⟨i, hi, hz, hs, hb⟩ := info_of info3
  exact ⟨⟨_, Try.underlying3, rfl, rfl⟩, i, hi, hs, hz, rfl, rfl⟩
theorem ok4 : TdT Try.prog 4 (td 4) := by
  obtain ⟨i, hi, hz, hs, hb⟩ := info_of info4
  exact ⟨⟨_, Try.underlying4, rfl, rfl⟩, i, hi, hs, hz, rfl, rfl⟩
theorem ok23 : TdT Try.prog 23 (td 23) := by
  obtain ⟨i, hi, hz, hs, hb⟩ := info_of info23
  refine ⟨_, i, Try.underlying23, hi, hs, hz, rfl, by decide, by simp [Value.oneCell'], rfl, ?_⟩
  intro j f o s g hf hg
  cases j with
  | zero =>
    simp at hf hg
    obtain ⟨rfl, rfl, rfl⟩ := hg
    subst hf
    obtain ⟨j', hj, _, hjs, _⟩ := info_of info3
    exact ⟨rfl, by decide, by decide, ⟨j', hj, hjs⟩, _, Try.underlying3, rfl, by decide⟩
  | succ j =>
    cases j with
    | zero =>
      simp at hf hg
      obtain ⟨rfl, rfl, rfl⟩ := hg
      subst hf
      obtain ⟨j', hj, _, hjs, _⟩ := info_of info3
      exact ⟨rfl, by decide, by decide, ⟨j', hj, hjs⟩, _, Try.underlying3, rfl, by decide⟩
    | succ j =>
      cases j with
      | zero =>
        simp at hf hg
        obtain ⟨rfl, rfl, rfl⟩ := hg
        subst hf
        obtain ⟨j', hj, _, hjs, _⟩ := info_of info4
        exact ⟨rfl, by decide, by decide, ⟨j', hj, hjs⟩, _, Try.underlying4, rfl, by decide⟩
      | succ j =>
        simp at hg
theorem ok24 : TdT Try.prog 24 (td 24) := by
  obtain ⟨i, hi, hz, hs, hb⟩ := info_of info24
  obtain ⟨j, hj, hjz, hjs, hjb⟩ := info_of info4
  exact ⟨Try.underlying24, by decide, ⟨j, _, hj, hjs, hjb, hjz, rfl⟩, i, hi, hs, hz⟩
theorem ok26 : TdT Try.prog 26 (td 26) := by
  obtain ⟨i, hi, hz, hs, hb⟩ := info_of info26
  refine ⟨_, i, Try.underlying26, hi, hs, hz, rfl, by decide, by simp [Value.oneCell'], rfl, ?_⟩
  intro j f o s g hf hg
  cases j with
  | zero =>
    simp at hf hg
    obtain ⟨rfl, rfl, rfl⟩ := hg
    subst hf
    obtain ⟨j', hj, _, hjs, _⟩ := info_of info3
    exact ⟨rfl, by decide, by decide, ⟨j', hj, hjs⟩, _, Try.underlying3, rfl, by decide⟩
  | succ j =>
    cases j with
    | zero =>
      simp at hf hg
      obtain ⟨rfl, rfl, rfl⟩ := hg
      subst hf
      obtain ⟨j', hj, _, hjs, _⟩ := info_of info3
      exact ⟨rfl, by decide, by decide, ⟨j', hj, hjs⟩, _, Try.underlying3, rfl, by decide⟩
    | succ j =>
      simp at hg
theorem ok30 : TdT Try.prog 30 (td 30) := by
  obtain ⟨i, hi, hz, hs, hb⟩ := info_of info30
  exact ⟨⟨_, Try.underlying30, rfl, ⟨_, rfl⟩⟩, i, hi, hs, hz, rfl, rfl⟩
theorem ok38 : TdT Try.prog 38 (td 38) := by
  obtain ⟨i, hi, hz, hs, hb⟩ := info_of info38
  exact ⟨⟨_, Try.underlying38, rfl, ⟨_, _, _, rfl⟩⟩, i, hi, hs, hz, rfl, rfl⟩
theorem ok40 : TdT Try.prog 40 (td 40) := by
  obtain ⟨i, hi, hz, hs, hb⟩ := info_of info40
  obtain ⟨j, hj, hjz, hjs, hjb⟩ := info_of info3
  exact ⟨Try.underlying40, by decide, ⟨j, _, hj, hjs, hjb, hjz, rfl⟩, i, hi, hs, hz⟩
theorem ok48 : TdT Try.prog 48 (td 48) := by
  obtain ⟨i, hi, hz, hs, hb⟩ := info_of info48
  exact ⟨⟨_, Try.underlying48, rfl, rfl⟩, i, hi, hs, hz, rfl, rfl⟩
theorem ok50 : TdT Try.prog 50 (td 50) := by
  obtain ⟨i, hi, hz, hs, hb⟩ := info_of info50
  exact ⟨⟨_, Try.underlying50, rfl, ⟨_, _, _, rfl⟩⟩, i, hi, hs, hz, rfl, rfl⟩
theorem ok52 : TdT Try.prog 52 (td 52) := by
  obtain ⟨i, hi, hz, hs, hb⟩ := info_of info52
  exact ⟨⟨_, Try.underlying52, rfl, ⟨_, _, _, rfl⟩⟩, i, hi, hs, hz, rfl, rfl⟩
theorem ok55 : TdT Try.prog 55 (td 55) := by
  obtain ⟨i, hi, hz, hs, hb⟩ := info_of info55
  exact ⟨⟨_, Try.underlying55, rfl, ⟨_, _, _, rfl⟩⟩, i, hi, hs, hz, rfl, rfl⟩
theorem tds : ∀ t, TdT Try.prog t (td t) := by
  intro t
  unfold td
  split
  · exact ok1
  · exact ok2
  · exact ok3
  · exact ok4
  · exact ok23
  · exact ok24
  · exact ok26
  · exact ok30
  · exact ok38
  · exact ok40
  · exact ok48
  · exact ok50
  · exact ok52
  · exact ok55
  · trivial

def conc : Nat → Bool
  | 2 => true
  | 3 => true
  | 4 => true
  | 23 => true
  | 24 => true
  | 26 => true
  | 40 => true
  | 48 => true
  | _ => false
theorem concs : ∀ t, conc t = true → ∃ d, Try.prog.underlying t = some d ∧ (match d with | .interface _ => false | _ => true) = true := by
  intro t h
  unfold conc at h
  split at h
  · exact ⟨_, Try.underlying2, rfl⟩
  · exact ⟨_, Try.underlying3, rfl⟩
  · exact ⟨_, Try.underlying4, rfl⟩
  · exact ⟨_, Try.underlying23, rfl⟩
  · exact ⟨_, Try.underlying24, rfl⟩
  · exact ⟨_, Try.underlying26, rfl⟩
  · exact ⟨_, Try.underlying40, rfl⟩
  · exact ⟨_, Try.underlying48, rfl⟩
  · cases h

def eqs : Nat → List Nat
  | 23 => [0, 0, 1]
  | 26 => [0, 0]
  | _ => []
theorem eq23 : Try.prog.eqGuardType Try.prog.depth 23 = false ∧ Try.prog.stoodInHeld 23 = false ∧ ∃ flds, Try.prog.underlying 23 = some (.struct flds) ∧ EqFlds Try.prog 0 flds.toList (eqs 23) := by
  refine ⟨by kernel_rfl, by kernel_rfl, _, Try.underlying23, ?_⟩
  exact ⟨rfl, by decide, ⟨_, Try.underlying3, trivial⟩, rfl, by decide, ⟨_, Try.underlying3, trivial⟩, rfl, by decide, ⟨_, Try.underlying4, trivial⟩, trivial⟩
theorem eq26 : Try.prog.eqGuardType Try.prog.depth 26 = false ∧ Try.prog.stoodInHeld 26 = false ∧ ∃ flds, Try.prog.underlying 26 = some (.struct flds) ∧ EqFlds Try.prog 0 flds.toList (eqs 26) := by
  refine ⟨by kernel_rfl, by kernel_rfl, _, Try.underlying26, ?_⟩
  exact ⟨rfl, by decide, ⟨_, Try.underlying3, trivial⟩, rfl, by decide, ⟨_, Try.underlying3, trivial⟩, trivial⟩
theorem eqss : ∀ t, eqs t ≠ [] → Try.prog.eqGuardType Try.prog.depth t = false ∧ Try.prog.stoodInHeld t = false ∧ ∃ flds, Try.prog.underlying t = some (.struct flds) ∧ EqFlds Try.prog 0 flds.toList (eqs t) := by
  intro t h
  unfold eqs at h
  split at h
  · exact eq23
  · exact eq26
  · exact absurd rfl h

/-- The functions. -/
noncomputable def fns : Nat → Option Func
  | 3 => some Try.f3
  | 4 => some Try.f4
  | 5 => some Try.f5
  | 6 => some Try.f6
  | 7 => some Try.f7
  | 8 => some Try.f8
  | 9 => some Try.f9
  | 10 => some Try.f10
  | 11 => some Try.f11
  | 12 => some Try.f12
  | 13 => some Try.f13
  | 14 => some Try.f14
  | 15 => some Try.f15
  | 16 => some Try.f16
  | 17 => some Try.f17
  | 18 => some Try.f18
  | 19 => some Try.f19
  | 20 => some Try.f20
  | 21 => some Try.f21
  | 22 => some Try.f22
  | 23 => some Try.f23
  | 24 => some Try.f24
  | 25 => some Try.f25
  | 26 => some Try.f26
  | 27 => some Try.f27
  | 28 => some Try.f28
  | 29 => some Try.f29
  | 30 => some Try.f30
  | _ => none
theorem fnss : ∀ n fn, fns n = some fn → Try.prog.funcs[n]? = some fn ∧ fn.body.isSome = true ∧ (fn.name == "runtime.NumGoroutine") = false := by
  intro n fn h
  unfold fns at h
  split at h
  · cases h; exact ⟨Try.func3, rfl, by decide⟩
  · cases h; exact ⟨Try.func4, rfl, by decide⟩
  · cases h; exact ⟨Try.func5, rfl, by decide⟩
  · cases h; exact ⟨Try.func6, rfl, by decide⟩
  · cases h; exact ⟨Try.func7, rfl, by decide⟩
  · cases h; exact ⟨Try.func8, rfl, by decide⟩
  · cases h; exact ⟨Try.func9, rfl, by decide⟩
  · cases h; exact ⟨Try.func10, rfl, by decide⟩
  · cases h; exact ⟨Try.func11, rfl, by decide⟩
  · cases h; exact ⟨Try.func12, rfl, by decide⟩
  · cases h; exact ⟨Try.func13, rfl, by decide⟩
  · cases h; exact ⟨Try.func14, rfl, by decide⟩
  · cases h; exact ⟨Try.func15, rfl, by decide⟩
  · cases h; exact ⟨Try.func16, rfl, by decide⟩
  · cases h; exact ⟨Try.func17, rfl, by decide⟩
  · cases h; exact ⟨Try.func18, rfl, by decide⟩
  · cases h; exact ⟨Try.func19, rfl, by decide⟩
  · cases h; exact ⟨Try.func20, rfl, by decide⟩
  · cases h; exact ⟨Try.func21, rfl, by decide⟩
  · cases h; exact ⟨Try.func22, rfl, by decide⟩
  · cases h; exact ⟨Try.func23, rfl, by decide⟩
  · cases h; exact ⟨Try.func24, rfl, by decide⟩
  · cases h; exact ⟨Try.func25, rfl, by decide⟩
  · cases h; exact ⟨Try.func26, rfl, by decide⟩
  · cases h; exact ⟨Try.func27, rfl, by decide⟩
  · cases h; exact ⟨Try.func28, rfl, by decide⟩
  · cases h; exact ⟨Try.func29, rfl, by decide⟩
  · cases h; exact ⟨Try.func30, rfl, by decide⟩
  · cases h

/-- Slots that nothing looks at any more, at each loop's head and behind it. -/
def kl : List (List Nat × List Nat × List Nat) := [([22, 23, 24, 25, 28, 29, 30, 26, 27], [0, 1, 2, 4, 5, 6, 11, 12, 13, 14, 15, 16, 17, 18, 19, 20, 21, 22, 23, 24, 25, 26, 27, 28, 29, 30, 31, 32, 33, 34, 35, 36, 37, 38, 39, 40, 41, 42, 43, 44, 45, 46, 47, 48, 49, 50, 51, 52, 53, 54, 55, 56, 57, 58, 59, 60, 61, 62, 63, 64, 65, 66, 67, 68, 69, 70, 71, 72, 73, 74, 75, 76, 77, 78, 79, 80, 81, 82, 83, 84, 85, 86, 87, 88, 89, 90, 91, 92, 93, 94, 95, 96, 97, 98, 99, 100, 101], [0, 1, 2, 4, 5, 10, 11, 12, 13, 14, 15, 16, 17, 18, 19, 20, 21, 22, 23, 24, 25, 26, 27, 28, 29, 30, 31, 32, 33, 34, 35, 36, 37, 38, 39, 40, 41, 42, 43, 44, 45, 46, 47, 48, 49, 50, 51, 52, 53, 54, 55, 56, 57, 58, 59, 60, 61, 62, 63, 64, 65, 66, 67, 68, 69, 70, 71, 72, 73, 74, 75, 76, 77, 78, 79, 80, 81, 82, 83, 84, 85, 86, 87, 88, 89, 90, 91, 92, 93, 94, 95, 96, 97, 98, 99, 100, 101]),
  ([31, 32, 33, 34, 37, 38, 39, 35, 36], [0, 1, 2, 4, 5, 6, 10, 12, 13, 14, 15, 16, 17, 18, 19, 20, 21, 22, 23, 24, 25, 26, 27, 28, 29, 30, 31, 32, 33, 34, 35, 36, 37, 38, 39, 40, 41, 42, 43, 44, 45, 46, 47, 48, 49, 50, 51, 52, 53, 54, 55, 56, 57, 58, 59, 60, 61, 62, 63, 64, 65, 66, 67, 68, 69, 70, 71, 72, 73, 74, 75, 76, 77, 78, 79, 80, 81, 82, 83, 84, 85, 86, 87, 88, 89, 90, 91, 92, 93, 94, 95, 96, 97, 98, 99, 100, 101], [0, 1, 2, 4, 5, 10, 11, 12, 13, 14, 15, 16, 17, 18, 19, 20, 21, 22, 23, 24, 25, 26, 27, 28, 29, 30, 31, 32, 33, 34, 35, 36, 37, 38, 39, 40, 41, 42, 43, 44, 45, 46, 47, 48, 49, 50, 51, 52, 53, 54, 55, 56, 57, 58, 59, 60, 61, 62, 63, 64, 65, 66, 67, 68, 69, 70, 71, 72, 73, 74, 75, 76, 77, 78, 79, 80, 81, 82, 83, 84, 85, 86, 87, 88, 89, 90, 91, 92, 93, 94, 95, 96, 97, 98, 99, 100, 101]),
  ([45, 46, 47, 48, 51, 52, 53, 54, 55, 56, 57, 58, 49, 50], [0, 1, 2, 3, 4, 5, 6, 12, 13, 14, 15, 16, 17, 18, 19, 20, 21, 22, 23, 24, 25, 26, 27, 28, 29, 30, 31, 32, 33, 34, 35, 36, 37, 38, 39, 40, 41, 42, 43, 44, 45, 46, 47, 48, 49, 50, 51, 52, 53, 54, 55, 56, 57, 58, 59, 60, 61, 62, 63, 64, 65, 66, 67, 68, 69, 70, 71, 72, 73, 74, 75, 76, 77, 78, 79, 80, 81, 82, 83, 84, 85, 86, 87, 88, 89, 90, 91, 92, 93, 94, 95, 96, 97, 98, 99, 100, 101], [0, 1, 2, 3, 4, 5, 7, 11, 12, 13, 14, 15, 16, 17, 18, 19, 20, 21, 22, 23, 24, 25, 26, 27, 28, 29, 30, 31, 32, 33, 34, 35, 36, 37, 38, 39, 40, 41, 42, 43, 44, 45, 46, 47, 48, 49, 50, 51, 52, 53, 54, 55, 56, 57, 58, 59, 60, 61, 62, 63, 64, 65, 66, 67, 68, 69, 70, 71, 72, 73, 74, 75, 76, 77, 78, 79, 80, 81, 82, 83, 84, 85, 86, 87, 88, 89, 90, 91, 92, 93, 94, 95, 96, 97, 98, 99, 100, 101]),
  ([59, 60, 13, 14, 63, 81, 82, 83, 84, 85, 86, 87, 88, 89, 90, 91, 92, 93, 94, 95, 96, 97, 98, 99, 100, 101, 12, 61, 62], [0, 1, 2, 3, 4, 5, 6, 7, 11, 13, 14, 15, 16, 17, 18, 19, 20, 21, 22, 23, 24, 25, 26, 27, 28, 29, 30, 31, 32, 33, 34, 35, 36, 37, 38, 39, 40, 41, 42, 43, 44, 45, 46, 47, 48, 49, 50, 51, 52, 53, 54, 55, 56, 57, 58, 59, 60, 61, 62, 63, 64, 65, 66, 67, 68, 69, 70, 71, 72, 73, 74, 75, 76, 77, 78, 79, 80, 81, 82, 83, 84, 85, 86, 87, 88, 89, 90, 91, 92, 93, 94, 95, 96, 97, 98, 99, 100, 101], [0, 1, 2, 3, 4, 5, 7, 8, 9, 10, 11, 12, 13, 14, 15, 16, 17, 18, 19, 20, 21, 22, 23, 24, 25, 26, 27, 28, 29, 30, 31, 32, 33, 34, 35, 36, 37, 38, 39, 40, 41, 42, 43, 44, 45, 46, 47, 48, 49, 50, 51, 52, 53, 54, 55, 56, 57, 58, 59, 60, 61, 62, 63, 64, 65, 66, 67, 68, 69, 70, 71, 72, 73, 74, 75, 76, 77, 78, 79, 80, 81, 82, 83, 84, 85, 86, 87, 88, 89, 90, 91, 92, 93, 94, 95, 96, 97, 98, 99, 100, 101]),
  ([5, 6, 7, 8, 11, 12, 13, 14, 15, 16, 17, 9, 10], [1, 2, 5, 6, 7, 8, 9, 10, 11, 12, 13, 14, 15, 16, 17, 18], [0, 1, 4, 5, 6, 7, 8, 9, 10, 11, 12, 13, 14, 15, 16, 17, 18]),
  ([8, 9, 10, 11, 14, 15, 16, 17, 18, 19, 20, 21, 22, 23, 24, 12, 13], [2, 3, 4, 8, 9, 10, 11, 12, 13, 14, 15, 16, 17, 18, 19, 20, 21, 22, 23, 24, 25], [0, 1, 2, 3, 5, 7, 8, 9, 10, 11, 12, 13, 14, 15, 16, 17, 18, 19, 20, 21, 22, 23, 24, 25]),
  ([15, 16, 17, 18, 19, 20, 21, 22, 23, 27, 28, 29, 30, 31, 32, 33, 34, 26, 35, 36, 13, 37, 38, 39, 40, 41, 42, 43, 44, 45, 46, 47, 48, 49, 50, 51, 24, 25], [0, 5, 6, 7, 8, 9, 13, 14, 15, 16, 17, 18, 19, 20, 21, 22, 23, 24, 25, 26, 27, 28, 29, 30, 31, 32, 33, 34, 35, 36, 37, 38, 39, 40, 41, 42, 43, 44, 45, 46, 47, 48, 49, 50, 51, 52, 53], [0, 1, 2, 3, 4, 5, 6, 7, 12, 13, 14, 15, 16, 17, 18, 19, 20, 21, 22, 23, 24, 25, 26, 27, 28, 29, 30, 31, 32, 33, 34, 35, 36, 37, 38, 39, 40, 41, 42, 43, 44, 45, 46, 47, 48, 49, 50, 51, 52, 53]),
  ([11, 12, 13, 14, 17, 18, 19, 20, 21, 22, 23, 24, 25, 15, 16], [2, 3, 4, 6, 7, 8, 9, 10, 11, 12, 13, 14, 15, 16, 17, 18, 19, 20, 21, 22, 23, 24, 25], [0, 1, 2, 3, 5, 6, 7, 8, 9, 10, 11, 12, 13, 14, 15, 16, 17, 18, 19, 20, 21, 22, 23, 24, 25]),
  ([6, 7, 8, 9, 12, 13, 14, 15, 16, 17, 18, 10, 11], [1, 2, 5, 6, 7, 8, 9, 10, 11, 12, 13, 14, 15, 16, 17, 18, 19, 20, 21, 22, 23, 24, 25, 26, 27, 28], [0, 1, 4, 5, 6, 7, 8, 9, 10, 11, 12, 13, 14, 15, 16, 17, 18, 19, 20, 21, 22, 23, 24, 25, 26, 27, 28]),
  ([19, 20, 23, 24, 25, 26, 27, 21, 22], [0, 1, 2, 4, 6, 7, 8, 9, 10, 11, 12, 13, 14, 15, 16, 17, 18, 19, 20, 21, 22, 23, 24, 25, 26, 27, 28], [0, 1, 4, 5, 6, 7, 8, 9, 10, 11, 12, 13, 14, 15, 16, 17, 18, 19, 20, 21, 22, 23, 24, 25, 26, 27, 28]),
  ([13, 14, 15, 16, 19, 20, 21, 22, 23, 24, 25, 26, 27, 28, 29, 30, 31, 32, 33, 34, 35, 36, 37, 17, 18], [2, 3, 4, 6, 7, 8, 9, 10, 11, 12, 13, 14, 15, 16, 17, 18, 19, 20, 21, 22, 23, 24, 25, 26, 27, 28, 29, 30, 31, 32, 33, 34, 35, 36, 37], [0, 1, 2, 3, 5, 6, 7, 8, 9, 10, 11, 12, 13, 14, 15, 16, 17, 18, 19, 20, 21, 22, 23, 24, 25, 26, 27, 28, 29, 30, 31, 32, 33, 34, 35, 36, 37]),
  ([11, 12, 13, 14, 15, 16, 17, 18, 19, 20, 21, 22, 23, 24, 25, 10], [1, 5, 6, 7, 11, 12, 13, 14, 15, 16, 17, 18, 19, 20, 21, 22, 23, 24, 25], [0, 1, 2, 3, 4, 5, 6, 7, 8, 9, 10, 11, 12, 13, 14, 15, 16, 17, 18, 19, 20, 21, 22, 23, 24, 25])]
/-- The sizes of the elements of slices within a type's cells. -/
def zz : Nat → List Nat
  | 24 => [1]
  | 40 => [1]
  | _ => []
def oz : Nat → List (Nat × Nat)
  | _ => []
/-- The table, with summaries of functions. -/
noncomputable def ctx (m : Nat → Option (List AV → Option (AV × List Blk))) (sq : Nat → Option (List AV → Option (List (List AV))) := fun _ => none) : Ctx := ⟨td, conc, eqs, fns, zz, kl, oz, [], m, sq, false⟩
theorem ctx_ok {G : World → Prop} (m : Nat → Option (List AV → Option (AV × List Blk))) (hm : ∀ n f, m n = some f → Models Try.prog G n f ∧ ∃ fn, Try.prog.funcs[n]? = some fn ∧ fn.body.isSome = true ∧ (fn.name == "runtime.NumGoroutine") = false) (sq : Nat → Option (List AV → Option (List (List AV))) := fun _ => none) (hsq : ∀ n q, sq n = some q → SeqOk Try.prog G n q ∧ ∃ fn, Try.prog.funcs[n]? = some fn ∧ fn.body.isSome = true ∧ (fn.name == "runtime.NumGoroutine") = false := by intro n q h; cases h) : CtxOk Try.prog (ctx m sq) G :=
  ⟨TdOk.of tds concs, hm, eqss, fnss, hsq⟩
end Go.Proofs.Ytkifbcjmmkbilaa.AvT
