/- The table of types and functions of this program, for the interpreter over plain values; written by a program, proved by Lean. -/
import Derived.Test.YtdagejfcnjndpaaProg
import Derived.Test.YtdagejfcnjndpaaChecked
import Derived.Test.YtdagejfcnjndpaaAvM
set_option maxRecDepth 100000
set_option linter.unusedVariables false
namespace Go.Proofs.Ytdagejfcnjndpaa.AvT
open Go Go.RowKit Go.Proofs.Ytdagejfcnjndpaa.Av

/-- What a type is. -/
def td : Nat → TD
  | 1 => .one (.nilFunc)
  | 3 => .one (.int .i64 0)
  | 4 => .one (.bool false)
  | 5 => .one (.int .u8 0)
  | 9 => .one (.string ⟨#[]⟩)
  | 22 => .sl 31 2 32
  | 25 => .one (.nilFunc)
  | 31 => .agg 2 [(0, 1, false), (1, 1, false)] [.string ⟨#[]⟩, .string ⟨#[]⟩]
  | 35 => .one (.nilFunc)
  | 40 => .sl 5 1 1
  | _ => .no

theorem info1 : (Try.prog.info? 1).map (fun i => (i.zero, i.size, i.bytes)) = some (some (.nilFunc), 1, 8) := by kernel_rfl
theorem info3 : (Try.prog.info? 3).map (fun i => (i.zero, i.size, i.bytes)) = some (some (.int .i64 0), 1, 8) := by kernel_rfl
theorem info4 : (Try.prog.info? 4).map (fun i => (i.zero, i.size, i.bytes)) = some (some (.bool false), 1, 1) := by kernel_rfl
theorem info5 : (Try.prog.info? 5).map (fun i => (i.zero, i.size, i.bytes)) = some (some (.int .u8 0), 1, 1) := by kernel_rfl
theorem info9 : (Try.prog.info? 9).map (fun i => (i.zero, i.size, i.bytes)) = some (some (.string ⟨#[]⟩), 1, 16) := by kernel_rfl
theorem info22 : (Try.prog.info? 22).map (fun i => (i.zero, i.size, i.bytes)) = some (some (.slice none 0 0), 1, 24) := by kernel_rfl
theorem info25 : (Try.prog.info? 25).map (fun i => (i.zero, i.size, i.bytes)) = some (some (.nilFunc), 1, 8) := by kernel_rfl
theorem info31 : (Try.prog.info? 31).map (fun i => (i.zero, i.size, i.bytes)) = some (some (.agg #[.string ⟨#[]⟩, .string ⟨#[]⟩]), 2, 32) := by kernel_rfl
theorem info35 : (Try.prog.info? 35).map (fun i => (i.zero, i.size, i.bytes)) = some (some (.nilFunc), 1, 8) := by kernel_rfl
theorem info40 : (Try.prog.info? 40).map (fun i => (i.zero, i.size, i.bytes)) = some (some (.slice none 0 0), 1, 24) := by kernel_rfl

theorem ok1 : TdT Try.prog 1 (td 1) := by
  obtain ⟨i, hi, hz, hs, hb⟩ := info_of info1
  exact ⟨⟨_, Try.underlying1, rfl, ⟨_, _, _, rfl⟩⟩, i, hi, hs, hz, rfl, rfl⟩
theorem ok3 : TdT Try.prog 3 (td 3) := by
  obtain ⟨i, hi, hz, hs, hb⟩ := info_of info3
  exact ⟨⟨_, Try.underlying3, rfl, rfl⟩, i, hi, hs, hz, rfl, rfl⟩
theorem ok4 : TdT Try.prog 4 (td 4) := by
  obtain ⟨i, hi, hz, hs, hb⟩ := info_of info4
  exact ⟨⟨_, Try.underlying4, rfl, rfl⟩, i, hi, hs, hz, rfl, rfl⟩
theorem ok5 : TdT Try.prog 5 (td 5) := by
  obtain ⟨i, hi, hz, hs, hb⟩ := info_of info5
  exact ⟨⟨_, Try.underlying5, rfl, rfl⟩, i, hi, hs, hz, rfl, rfl⟩
theorem ok9 : TdT Try.prog 9 (td 9) := by
  obtain ⟨i, hi, hz, hs, hb⟩ := info_of info9
  exact ⟨⟨_, Try.underlying9, rfl, rfl⟩, i, hi, hs, hz, rfl, rfl⟩
theorem ok22 : TdT Try.prog 22 (td 22) := by
  obtain ⟨i, hi, hz, hs, hb⟩ := info_of info22
  obtain ⟨j, hj, hjz, hjs, hjb⟩ := info_of info31
  exact ⟨Try.underlying22, by decide, ⟨j, _, hj, hjs, hjb, hjz, rfl⟩, i, hi, hs, hz⟩
theorem ok25 : TdT Try.prog 25 (td 25) := by
  obtain ⟨i, hi, hz, hs, hb⟩ := info_of info25
  exact ⟨⟨_, Try.underlying25, rfl, ⟨_, _, _, rfl⟩⟩, i, hi, hs, hz, rfl, rfl⟩
theorem ok31 : TdT Try.prog 31 (td 31) := by
  obtain ⟨i, hi, hz, hs, hb⟩ := info_of info31
  refine ⟨_, i, Try.underlying31, hi, hs, hz, rfl, by decide, by simp [Value.oneCell'], rfl, ?_⟩
  intro j f o s g hf hg
  cases j with
  | zero =>
    simp at hf hg
    obtain ⟨rfl, rfl, rfl⟩ := hg
    subst hf
    obtain ⟨j', hj, _, hjs, _⟩ := info_of info9
    exact ⟨rfl, by decide, by decide, ⟨j', hj, hjs⟩, _, Try.underlying9, rfl, by decide⟩
  | succ j =>
    cases j with
    | zero =>
      simp at hf hg
      obtain ⟨rfl, rfl, rfl⟩ := hg
      subst hf
      obtain ⟨j', hj, _, hjs, _⟩ := info_of info9
      exact ⟨rfl, by decide, by decide, ⟨j', hj, hjs⟩, _, Try.underlying9, rfl, by decide⟩
    | succ j =>
      simp at hg
theorem ok35 : TdT Try.prog 35 (td 35) := by
  obtain ⟨i, hi, hz, hs, hb⟩ := info_of info35
  exact ⟨⟨_, Try.underlying35, rfl, ⟨_, _, _, rfl⟩⟩, i, hi, hs, hz, rfl, rfl⟩
theorem ok40 : TdT Try.prog 40 (td 40) := by
  obtain ⟨i, hi, hz, hs, hb⟩ := info_of info40
  obtain ⟨j, hj, hjz, hjs, hjb⟩ := info_of info5
  exact ⟨Try.underlying40, by decide, ⟨j, _, hj, hjs, hjb, hjz, rfl⟩, i, hi, hs, hz⟩
theorem tds : ∀ t, TdT Try.prog t (td t) := by
  intro t
  unfold td
  split
  · exact ok1
  · exact ok3
  · exact ok4
  · exact ok5
  · exact ok9
  · exact ok22
  · exact ok25
  · exact ok31
  · exact ok35
  · exact ok40
  · trivial

def conc : Nat → Bool
  | 3 => true
  | 4 => true
  | 5 => true
  | 9 => true
  | 22 => true
  | 31 => true
  | 40 => true
  | _ => false
theorem concs : ∀ t, conc t = true → ∃ d, Try.prog.underlying t = some d ∧ (match d with | .interface _ => false | _ => true) = true := by
  intro t h
  unfold conc at h
  split at h
  · exact ⟨_, Try.underlying3, rfl⟩
  · exact ⟨_, Try.underlying4, rfl⟩
  · exact ⟨_, Try.underlying5, rfl⟩
  · exact ⟨_, Try.underlying9, rfl⟩
  · exact ⟨_, Try.underlying22, rfl⟩
  · exact ⟨_, Try.underlying31, rfl⟩
  · exact ⟨_, Try.underlying40, rfl⟩
  · cases h

def eqs : Nat → List Nat
  | 31 => [2, 2]
  | _ => []
theorem eq31 : Try.prog.eqGuardType Try.prog.depth 31 = false ∧ Try.prog.stoodInHeld 31 = false ∧ ∃ flds, Try.prog.underlying 31 = some (.struct flds) ∧ EqFlds Try.prog 0 flds.toList (eqs 31) := by
  refine ⟨by kernel_rfl, by kernel_rfl, _, Try.underlying31, ?_⟩
  exact ⟨rfl, by decide, ⟨_, Try.underlying9, trivial⟩, rfl, by decide, ⟨_, Try.underlying9, trivial⟩, trivial⟩
theorem eqss : ∀ t, eqs t ≠ [] → Try.prog.eqGuardType Try.prog.depth t = false ∧ Try.prog.stoodInHeld t = false ∧ ∃ flds, Try.prog.underlying t = some (.struct flds) ∧ EqFlds Try.prog 0 flds.toList (eqs t) := by
  intro t h
  unfold eqs at h
  split at h
  · exact eq31
  · exact absurd rfl h

/-- The functions. -/
noncomputable def fns : Nat → Option Func
  | 3 => some Try.f3
  | 4 => some Try.f4
  | 5 => some Try.f5
  | 6 => some Try.f6
  | 7 => some Try.f7
  | 8 => some Try.f8
  | 9 => some Try.f9
  | 10 => some Try.f10
  | 11 => some Try.f11
  | 12 => some Try.f12
  | 13 => some Try.f13
  | 14 => some Try.f14
  | 15 => some Try.f15
  | 16 => some Try.f16
  | 17 => some Try.f17
  | 18 => some Try.f18
  | 19 => some Try.f19
  | _ => none
theorem fnss : ∀ n fn, fns n = some fn → Try.prog.funcs[n]? = some fn ∧ fn.body.isSome = true ∧ (fn.name == "runtime.NumGoroutine") = false := by
  intro n fn h
  unfold fns at h
  split at h
  · cases h; exact ⟨Try.func3, rfl, by decide⟩
  · cases h; exact ⟨Try.func4, rfl, by decide⟩
  · cases h; exact ⟨Try.func5, rfl, by decide⟩
  · cases h; exact ⟨Try.func6, rfl, by decide⟩
  · cases h; exact ⟨Try.func7, rfl, by decide⟩
  · cases h; exact ⟨Try.func8, rfl, by decide⟩
  · cases h; exact ⟨Try.func9, rfl, by decide⟩
  · cases h; exact ⟨Try.func10, rfl, by decide⟩
  · cases h; exact ⟨Try.func11, rfl, by decide⟩
  · cases h; exact ⟨Try.func12, rfl, by decide⟩
  · cases h; exact ⟨Try.func13, rfl, by decide⟩
  · cases h; exact ⟨Try.func14, rfl, by decide⟩
  · cases h; exact ⟨Try.func15, rfl, by decide⟩
  · cases h; exact ⟨Try.func16, rfl, by decide⟩
  · cases h; exact ⟨Try.func17, rfl, by decide⟩
  · cases h; exact ⟨Try.func18, rfl, by decide⟩
  · cases h; exact ⟨Try.func19, rfl, by decide⟩
  · cases h

/-- Slots that nothing looks at any more, at each loop's head and behind it. -/
def kl : List (List Nat × List Nat × List Nat) := [([51, 52, 53, 54, 58, 59, 60, 61, 62, 63, 64, 57, 65, 66, 68, 69, 70, 71, 72, 73, 74, 67, 75, 76, 77, 78, 79, 80, 81, 82, 83, 84, 55, 56], [3, 4, 5, 6, 8, 11, 12, 13, 14, 15, 16, 17, 18, 19, 20, 21, 22, 23, 24, 25, 26, 27, 28, 29, 30, 31, 32, 33, 34, 35, 36, 37, 38, 39, 40, 41, 42, 43, 44, 45, 46, 47, 48, 49, 50, 51, 52, 53, 54, 55, 56, 57, 58, 59, 60, 61, 62, 63, 64, 65, 66, 67, 68, 69, 70, 71, 72, 73, 74, 75, 76, 77, 78, 79, 80, 81, 82, 83, 84, 85, 86, 87, 88, 89, 90, 91, 92, 93, 94, 95, 96, 97, 98, 99, 100, 101, 102, 103, 104, 105, 106, 107, 108, 109, 110, 111, 112, 113, 114, 115, 116, 117, 118, 119, 120, 121, 122, 123, 124, 125, 126, 127, 128, 129, 130, 131, 132, 133], [3, 4, 5, 8, 10, 11, 12, 13, 14, 15, 16, 17, 18, 19, 20, 21, 22, 23, 24, 25, 26, 27, 28, 29, 30, 31, 32, 33, 34, 35, 36, 37, 38, 39, 40, 41, 42, 43, 44, 45, 46, 47, 48, 49, 50, 51, 52, 53, 54, 55, 56, 57, 58, 59, 60, 61, 62, 63, 64, 65, 66, 67, 68, 69, 70, 71, 72, 73, 74, 75, 76, 77, 78, 79, 80, 81, 82, 83, 84, 85, 86, 87, 88, 89, 90, 91, 92, 93, 94, 95, 96, 97, 98, 99, 100, 101, 102, 103, 104, 105, 106, 107, 108, 109, 110, 111, 112, 113, 114, 115, 116, 117, 118, 119, 120, 121, 122, 123, 124, 125, 126, 127, 128, 129, 130, 131, 132, 133]),
  ([88, 89, 90, 91, 94, 95, 96, 97, 92, 93], [0, 1, 3, 4, 5, 6, 8, 10, 11, 12, 13, 14, 17, 18, 19, 20, 21, 22, 23, 24, 25, 26, 27, 28, 29, 30, 31, 32, 33, 34, 35, 36, 37, 38, 39, 40, 41, 42, 43, 44, 45, 46, 47, 48, 49, 50, 51, 52, 53, 54, 55, 56, 57, 58, 59, 60, 61, 62, 63, 64, 65, 66, 67, 68, 69, 70, 71, 72, 73, 74, 75, 76, 77, 78, 79, 80, 81, 82, 83, 84, 85, 86, 87, 88, 89, 90, 91, 92, 93, 94, 95, 96, 97, 98, 99, 100, 101, 102, 103, 104, 105, 106, 107, 108, 109, 110, 111, 112, 113, 114, 115, 116, 117, 118, 119, 120, 121, 122, 123, 124, 125, 126, 127, 128, 129, 130, 131, 132, 133], [0, 1, 3, 4, 5, 7, 8, 10, 11, 12, 13, 14, 16, 17, 18, 19, 20, 21, 22, 23, 24, 25, 26, 27, 28, 29, 30, 31, 32, 33, 34, 35, 36, 37, 38, 39, 40, 41, 42, 43, 44, 45, 46, 47, 48, 49, 50, 51, 52, 53, 54, 55, 56, 57, 58, 59, 60, 61, 62, 63, 64, 65, 66, 67, 68, 69, 70, 71, 72, 73, 74, 75, 76, 77, 78, 79, 80, 81, 82, 83, 84, 85, 86, 87, 88, 89, 90, 91, 92, 93, 94, 95, 96, 97, 98, 99, 100, 101, 102, 103, 104, 105, 106, 107, 108, 109, 110, 111, 112, 113, 114, 115, 116, 117, 118, 119, 120, 121, 122, 123, 124, 125, 126, 127, 128, 129, 130, 131, 132, 133]),
  ([103, 104, 19, 107, 121, 122, 123, 124, 125, 126, 127, 128, 129, 130, 131, 132, 133, 18, 105, 106], [0, 1, 2, 3, 4, 5, 6, 7, 8, 10, 11, 12, 13, 14, 16, 19, 20, 21, 22, 23, 24, 25, 26, 27, 28, 29, 30, 31, 32, 33, 34, 35, 36, 37, 38, 39, 40, 41, 42, 43, 44, 45, 46, 47, 48, 49, 50, 51, 52, 53, 54, 55, 56, 57, 58, 59, 60, 61, 62, 63, 64, 65, 66, 67, 68, 69, 70, 71, 72, 73, 74, 75, 76, 77, 78, 79, 80, 81, 82, 83, 84, 85, 86, 87, 88, 89, 90, 91, 92, 93, 94, 95, 96, 97, 98, 99, 100, 101, 102, 103, 104, 105, 106, 107, 108, 109, 110, 111, 112, 113, 114, 115, 116, 117, 118, 119, 120, 121, 122, 123, 124, 125, 126, 127, 128, 129, 130, 131, 132, 133], [0, 1, 2, 3, 4, 5, 7, 8, 9, 10, 11, 12, 13, 14, 15, 16, 17, 18, 19, 20, 21, 22, 23, 24, 25, 26, 27, 28, 29, 30, 31, 32, 33, 34, 35, 36, 37, 38, 39, 40, 41, 42, 43, 44, 45, 46, 47, 48, 49, 50, 51, 52, 53, 54, 55, 56, 57, 58, 59, 60, 61, 62, 63, 64, 65, 66, 67, 68, 69, 70, 71, 72, 73, 74, 75, 76, 77, 78, 79, 80, 81, 82, 83, 84, 85, 86, 87, 88, 89, 90, 91, 92, 93, 94, 95, 96, 97, 98, 99, 100, 101, 102, 103, 104, 105, 106, 107, 108, 109, 110, 111, 112, 113, 114, 115, 116, 117, 118, 119, 120, 121, 122, 123, 124, 125, 126, 127, 128, 129, 130, 131, 132, 133]),
  ([13, 14, 15, 7, 16, 17, 18, 19, 20, 21, 9, 22, 23, 24, 25, 26, 27, 28, 29, 18, 30, 12], [0, 2, 3, 4, 6, 7, 8, 9, 13, 14, 15, 16, 17, 18, 19, 20, 21, 22, 23, 24, 25, 26, 27, 28, 29, 30, 31], [0, 1, 2, 3, 6, 7, 8, 9, 10, 11, 12, 13, 14, 15, 16, 17, 18, 19, 20, 21, 22, 23, 24, 25, 26, 27, 28, 29, 30, 31]),
  ([19, 20, 21, 9, 22, 23, 24, 25, 26, 27, 28, 29, 18], [0, 2, 3, 4, 6, 8, 9, 13, 14, 15, 19, 20, 21, 22, 23, 24, 25, 26, 27, 28, 29, 30, 31], [0, 2, 3, 6, 7, 8, 9, 13, 14, 15, 16, 17, 18, 19, 20, 21, 22, 23, 24, 25, 26, 27, 28, 29, 30, 31]),
  ([6, 7, 8, 9, 12, 13, 14, 15, 16, 17, 18, 10, 11], [2, 6, 7, 8, 9, 10, 11, 12, 13, 14, 15, 16, 17, 18], [0, 1, 5, 6, 7, 8, 9, 10, 11, 12, 13, 14, 15, 16, 17, 18]),
  ([11, 12, 13, 7, 14, 15, 16, 17, 18, 19, 20, 10], [0, 2, 3, 4, 5, 6, 7, 11, 12, 13, 14, 15, 16, 17, 18, 19, 20], [0, 1, 2, 3, 6, 7, 8, 9, 10, 11, 12, 13, 14, 15, 16, 17, 18, 19, 20]),
  ([7, 8, 9, 10, 13, 14, 15, 16, 17, 18, 19, 20, 21, 22, 23, 24, 11, 12], [2, 3, 4, 5, 7, 8, 9, 10, 11, 12, 13, 14, 15, 16, 17, 18, 19, 20, 21, 22, 23, 24], [0, 1, 2, 3, 6, 7, 8, 9, 10, 11, 12, 13, 14, 15, 16, 17, 18, 19, 20, 21, 22, 23, 24]),
  ([7, 8, 9, 10, 13, 14, 15, 16, 17, 18, 19, 20, 21, 22, 23, 24, 25, 11, 12], [2, 3, 4, 7, 8, 9, 10, 11, 12, 13, 14, 15, 16, 17, 18, 19, 20, 21, 22, 23, 24, 25, 26], [0, 1, 2, 3, 6, 7, 8, 9, 10, 11, 12, 13, 14, 15, 16, 17, 18, 19, 20, 21, 22, 23, 24, 25, 26]),
  ([11, 12, 13, 14, 17, 18, 19, 20, 21, 22, 23, 24, 25, 15, 16], [2, 3, 4, 6, 7, 8, 9, 10, 11, 12, 13, 14, 15, 16, 17, 18, 19, 20, 21, 22, 23, 24, 25], [0, 1, 2, 3, 5, 6, 7, 8, 9, 10, 11, 12, 13, 14, 15, 16, 17, 18, 19, 20, 21, 22, 23, 24, 25]),
  ([19, 20, 23, 24, 25, 26, 27, 21, 22], [0, 1, 2, 4, 6, 7, 8, 9, 10, 11, 12, 13, 14, 15, 16, 17, 18, 19, 20, 21, 22, 23, 24, 25, 26, 27, 28], [0, 1, 4, 5, 6, 7, 8, 9, 10, 11, 12, 13, 14, 15, 16, 17, 18, 19, 20, 21, 22, 23, 24, 25, 26, 27, 28]),
  ([8, 9, 10, 4, 11, 12, 13, 14, 15, 7], [1, 2, 3, 4, 8, 9, 10, 11, 12, 13, 14, 15], [0, 1, 2, 3, 4, 5, 6, 7, 8, 9, 10, 11, 12, 13, 14, 15]),
  ([6, 7, 8, 9, 12, 13, 14, 15, 16, 17, 10, 11], [1, 2, 4, 6, 7, 8, 9, 10, 11, 12, 13, 14, 15, 16, 17], [0, 1, 2, 3, 5, 6, 7, 8, 9, 10, 11, 12, 13, 14, 15, 16, 17]),
  ([13, 14, 15, 16, 19, 20, 21, 22, 23, 6, 24, 25, 26, 27, 28, 29, 30, 31, 32, 33, 34, 35, 36, 37, 17, 18], [2, 3, 4, 6, 7, 8, 9, 10, 11, 12, 13, 14, 15, 16, 17, 18, 19, 20, 21, 22, 23, 24, 25, 26, 27, 28, 29, 30, 31, 32, 33, 34, 35, 36, 37], [0, 1, 2, 3, 5, 6, 7, 8, 9, 10, 11, 12, 13, 14, 15, 16, 17, 18, 19, 20, 21, 22, 23, 24, 25, 26, 27, 28, 29, 30, 31, 32, 33, 34, 35, 36, 37])]
/-- The sizes of the elements of slices within a type's cells. -/
def zz : Nat → List Nat
  | 22 => [2]
  | 40 => [1]
  | _ => []
def oz : Nat → List (Nat × Nat)
  | _ => []
/-- The table, with summaries of functions. -/
noncomputable def ctx (m : Nat → Option (List AV → Option (AV × List Blk))) (sq : Nat → Option (List AV → Option (List (List AV))) := fun _ => none) : Ctx := ⟨td, conc, eqs, fns, zz, kl, oz, [], m, sq, false⟩
theorem ctx_ok {G : World → Prop} (m : Nat → Option (List AV → Option (AV × List Blk))) (hm : ∀ n f, m n = some f → Models Try.prog G n f ∧ ∃ fn, Try.prog.funcs[n]? = some fn ∧ fn.body.isSome = true ∧ (fn.name == "runtime.NumGoroutine") = false) (sq : Nat → Option (List AV → Option (List (List AV))) := fun _ => none) (hsq : ∀ n q, sq n = some q → SeqOk Try.prog G n q ∧ ∃ fn, Try.prog.funcs[n]? = some fn ∧ fn.body.isSome = true ∧ (fn.name == "runtime.NumGoroutine") = false := by intro n q h; cases h) : CtxOk Try.prog (ctx m sq) G :=
  ⟨TdOk.of tds concs, hm, eqss, fnss, hsq⟩
end Go.Proofs.Ytdagejfcnjndpaa.AvT
