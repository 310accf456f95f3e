/- The table of types and functions of this program, for the interpreter over plain values; written by a program, proved by Lean. -/
import Derived.Test.YtalkodandfjkmaaProg
import Derived.Test.YtalkodandfjkmaaChecked
import Derived.Test.YtalkodandfjkmaaMg1
set_option maxRecDepth 100000
set_option linter.unusedVariables false
namespace Go.Proofs.Ytalkodandfjkmaa.AvT
open Go Go.RowKit Go.Proofs.Ytalkodandfjkmaa.Av

/-- What a type is. -/
def td : Nat → TD
  | 1 => .one (.nilFunc)
  | 2 => .one (.int .i64 0)
  | 3 => .one (.int .i64 0)
  | 4 => .one (.bool false)
  | 5 => .one (.int .u8 0)
  | 6 => .one (.int .u8 0)
  | 9 => .one (.string ⟨#[]⟩)
  | 20 => .one (.nilIface)
  | 22 => .sl 5 1 1
  | 24 => .one (.int .u64 0)
  | 28 => .sl 51 2 32
  | 30 => .agg 2 [(0, 1, false), (1, 1, false)] [.int .i64 0, .int .i64 0]
  | 32 => .agg 32 [(0, 1, false), (1, 1, false), (2, 1, false), (3, 1, false), (4, 1, false), (5, 2, true), (7, 1, false), (8, 1, false), (9, 1, false), (10, 1, false), (11, 1, false), (12, 1, false), (13, 1, false), (14, 1, false), (15, 1, false), (16, 1, false), (17, 2, true), (19, 1, false), (20, 1, false), (21, 1, false), (22, 1, false), (23, 1, false), (24, 1, false), (25, 1, false), (26, 1, false), (27, 1, false), (28, 1, false), (29, 1, false), (30, 1, false), (31, 1, false)] [.int .i64 0, .string ⟨#[]⟩, .int .i64 0, .int .i64 0, .slice none 0 0, .int .i64 0, .int .i64 0, .bool false, .bool false, .bool false, .int .i64 0, .string ⟨#[]⟩, .string ⟨#[]⟩, .string ⟨#[]⟩, .int .i64 0, .bool false, .bool false, .int .i64 0, .int .i64 0, .string ⟨#[]⟩, .int .i64 0, .int .i64 0, .int .i64 0, .int .i64 0, .int .i64 0, .bool false, .int .u64 0, .slice none 0 0, .int .i64 0, .string ⟨#[]⟩, .int .i64 0, .int .i64 0]
  | 42 => .one (.nilIface)
  | 47 => .one (.int .u64 0)
  | 51 => .agg 2 [(0, 1, false), (1, 1, false)] [.string ⟨#[]⟩, .string ⟨#[]⟩]
  | 57 => .one (.int .i64 0)
  | 59 => .one (.int .u64 0)
  | 62 => .one (.pointer none)
  | 63 => .sl 20 1 16
  | _ => .no

theorem info1 : (Try.prog.info? 1).map (fun i => (i.zero, i.size, i.bytes)) = some (some (.nilFunc), 1, 8) := by kernel_rfl
theorem info2 : (Try.prog.info? 2).map (fun i => (i.zero, i.size, i.bytes)) = some (some (.int .i64 0), 1, 8) := by kernel_rfl
theorem info3 : (Try.prog.info? 3).map (fun i => (i.zero, i.size, i.bytes)) = some (some (.int .i64 0), 1, 8) := by kernel_rfl
theorem info4 : (Try.prog.info? 4).map (fun i => (i.zero, i.size, i.bytes)) = some (some (.bool false), 1, 1) := by kernel_rfl
theorem info5 : (Try.prog.info? 5).map (fun i => (i.zero, i.size, i.bytes)) = some (some (.int .u8 0), 1, 1) := by kernel_rfl
theorem info6 : (Try.prog.info? 6).map (fun i => (i.zero, i.size, i.bytes)) = some (some (.int .u8 0), 1, 1) := by kernel_rfl
theorem info9 : (Try.prog.info? 9).map (fun i => (i.zero, i.size, i.bytes)) = some (some (.string ⟨#[]⟩), 1, 16) := by kernel_rfl
theorem info20 : (Try.prog.info? 20).map (fun i => (i.zero, i.size, i.bytes)) = some (some (.nilIface), 1, 16) := by kernel_rfl
theorem info22 : (Try.prog.info? 22).map (fun i => (i.zero, i.size, i.bytes)) = some (some (.slice none 0 0), 1, 24) := by kernel_rfl
theorem info24 : (Try.prog.info? 24).map (fun i => (i.zero, i.size, i.bytes)) = some (some (.int .u64 0), 1, 8) := by kernel_rfl
theorem info28 : (Try.prog.info? 28).map (fun i => (i.zero, i.size, i.bytes)) = some (some (.slice none 0 0), 1, 24) := by kernel_rfl
theorem info30 : (Try.prog.info? 30).map (fun i => (i.zero, i.size, i.bytes)) = some (some (.agg #[.int .i64 0, .int .i64 0]), 2, 16) := by kernel_rfl
theorem info32 : (Try.prog.info? 32).map (fun i => (i.zero, i.size, i.bytes)) = some (some (.agg #[.int .i64 0, .string ⟨#[]⟩, .int .i64 0, .int .i64 0, .slice none 0 0, .int .i64 0, .int .i64 0, .bool false, .bool false, .bool false, .int .i64 0, .string ⟨#[]⟩, .string ⟨#[]⟩, .string ⟨#[]⟩, .int .i64 0, .bool false, .bool false, .int .i64 0, .int .i64 0, .string ⟨#[]⟩, .int .i64 0, .int .i64 0, .int .i64 0, .int .i64 0, .int .i64 0, .bool false, .int .u64 0, .slice none 0 0, .int .i64 0, .string ⟨#[]⟩, .int .i64 0, .int .i64 0]), 32, 312) := by kernel_rfl
theorem info42 : (Try.prog.info? 42).map (fun i => (i.zero, i.size, i.bytes)) = some (some (.nilIface), 1, 16) := by kernel_rfl
theorem info47 : (Try.prog.info? 47).map (fun i => (i.zero, i.size, i.bytes)) = some (some (.int .u64 0), 1, 8) := by kernel_rfl
theorem info51 : (Try.prog.info? 51).map (fun i => (i.zero, i.size, i.bytes)) = some (some (.agg #[.string ⟨#[]⟩, .string ⟨#[]⟩]), 2, 32) := by kernel_rfl
theorem info57 : (Try.prog.info? 57).map (fun i => (i.zero, i.size, i.bytes)) = some (some (.int .i64 0), 1, 8) := by kernel_rfl
theorem info59 : (Try.prog.info? 59).map (fun i => (i.zero, i.size, i.bytes)) = some (some (.int .u64 0), 1, 8) := by kernel_rfl
theorem info62 : (Try.prog.info? 62).map (fun i => (i.zero, i.size, i.bytes)) = some (some (.pointer none), 1, 8) := by kernel_rfl
theorem info63 : (Try.prog.info? 63).map (fun i => (i.zero, i.size, i.bytes)) = some (some (.slice none 0 0), 1, 24) := by kernel_rfl

theorem ok1 : TdT Try.prog 1 (td 1) := by
  obtain ⟨i, hi, hz, hs, hb⟩ := info_of info1
  exact ⟨⟨_, Try.underlying1, rfl, ⟨_, _, _, rfl⟩⟩, i, hi, hs, hz, rfl, rfl⟩
theorem ok2 : TdT Try.prog 2 (td 2) := by
  obtain ⟨i, hi, hz, hs, hb⟩ := info_of info2
  exact ⟨⟨_, Try.underlying2, rfl, rfl⟩, i, hi, hs, hz, rfl, rfl⟩
theorem ok3 : TdT Try.prog 3 (td 3) := by
  obtain ⟨i, hi, hz, hs, hb⟩ := info_of info3
  exact ⟨⟨_, Try.underlying3, rfl, rfl⟩, i, hi, hs, hz, rfl, rfl⟩
theorem ok4 : TdT Try.prog 4 (td 4) := by
  obtain ⟨i, hi, hz, hs, hb⟩ := info_of info4
  exact ⟨⟨_, Try.underlying4, rfl, rfl⟩, i, hi, hs, hz, rfl, rfl⟩
theorem ok5 : TdT Try.prog 5 (td 5) := by
  obtain ⟨i, hi, hz, hs, hb⟩ := info_of info5
  exact ⟨⟨_, Try.underlying5, rfl, rfl⟩, i, hi, hs, hz, rfl, rfl⟩
theorem ok6 : TdT Try.prog 6 (td 6) := by
  obtain ⟨i, hi, hz, hs, hb⟩ := info_of info6
  exact ⟨⟨_, Try.underlying6, rfl, rfl⟩, i, hi, hs, hz, rfl, rfl⟩
theorem ok9 : TdT Try.prog 9 (td 9) := by
  obtain ⟨i, hi, hz, hs, hb⟩ := info_of info9
  exact ⟨⟨_, Try.underlying9, rfl, rfl⟩, i, hi, hs, hz, rfl, rfl⟩
theorem ok20 : TdT Try.prog 20 (td 20) := by
  obtain ⟨i, hi, hz, hs, hb⟩ := info_of info20
  exact ⟨⟨_, Try.underlying20, rfl, ⟨_, rfl⟩⟩, i, hi, hs, hz, rfl, rfl⟩
theorem ok22 : TdT Try.prog 22 (td 22) := by
  obtain ⟨i, hi, hz, hs, hb⟩ := info_of info22
  obtain ⟨j, hj, hjz, hjs, hjb⟩ := info_of info5
  exact ⟨Try.underlying22, by decide, ⟨j, _, hj, hjs, hjb, hjz, rfl⟩, i, hi, hs, hz⟩
theorem ok24 : TdT Try.prog 24 (td 24) := by
  obtain ⟨i, hi, hz, hs, hb⟩ := info_of info24
  exact ⟨⟨_, Try.underlying24, rfl, rfl⟩, i, hi, hs, hz, rfl, rfl⟩
theorem ok28 : TdT Try.prog 28 (td 28) := by
  obtain ⟨i, hi, hz, hs, hb⟩ := info_of info28
  obtain ⟨j, hj, hjz, hjs, hjb⟩ := info_of info51
  exact ⟨Try.underlying28, by decide, ⟨j, _, hj, hjs, hjb, hjz, rfl⟩, i, hi, hs, hz⟩
theorem ok30 : TdT Try.prog 30 (td 30) := by
  obtain ⟨i, hi, hz, hs, hb⟩ := info_of info30
  refine ⟨_, i, Try.underlying30, hi, hs, hz, rfl, by decide, by simp [Value.oneCell'], rfl, ?_⟩
  intro j f o s g hf hg
  cases j with
  | zero =>
    simp at hf hg
    obtain ⟨rfl, rfl, rfl⟩ := hg
    subst hf
    obtain ⟨j', hj, _, hjs, _⟩ := info_of info3
    exact ⟨rfl, by decide, by decide, ⟨j', hj, hjs⟩, _, Try.underlying3, rfl, by decide⟩
  | succ j =>
    cases j with
    | zero =>
      simp at hf hg
      obtain ⟨rfl, rfl, rfl⟩ := hg
      subst hf
      obtain ⟨j', hj, _, hjs, _⟩ := info_of info3
      exact ⟨rfl, by decide, by decide, ⟨j', hj, hjs⟩, _, Try.underlying3, rfl, by decide⟩
    | succ j =>
      simp at hg
theorem ok32 : TdT Try.prog 32 (td 32) := by
  obtain ⟨i, hi, hz, hs, hb⟩ := info_of info32
  refine ⟨_, i, Try.underlying32, hi, hs, hz, rfl, by decide, by simp [Value.oneCell'], rfl, ?_⟩
  intro j f o s g hf hg
  cases j with
  | zero =>
    simp at hf hg
    obtain ⟨rfl, rfl, rfl⟩ := hg
    subst hf
    obtain ⟨j', hj, _, hjs, _⟩ := info_of info3
    exact ⟨rfl, by decide, by decide, ⟨j', hj, hjs⟩, _, Try.underlying3, rfl, by decide⟩
  | succ j =>
    cases j with
    | zero =>
      simp at hf hg
      obtain ⟨rfl, rfl, rfl⟩ := hg
      subst hf
      obtain ⟨j', hj, _, hjs, _⟩ := info_of info9
      exact ⟨rfl, by decide, by decide, ⟨j', hj, hjs⟩, _, Try.underlying9, rfl, by decide⟩
    | succ j =>
      cases j with
      | zero =>
        simp at hf hg
        obtain ⟨rfl, rfl, rfl⟩ := hg
        subst hf
        obtain ⟨j', hj, _, hjs, _⟩ := info_of info3
        exact ⟨rfl, by decide, by decide, ⟨j', hj, hjs⟩, _, Try.underlying3, rfl, by decide⟩
      | succ j =>
        cases j with
        | zero =>
          simp at hf hg
          obtain ⟨rfl, rfl, rfl⟩ := hg
          subst hf
          obtain ⟨j', hj, _, hjs, _⟩ := info_of info3
          exact ⟨rfl, by decide, by decide, ⟨j', hj, hjs⟩, _, Try.underlying3, rfl, by decide⟩
        | succ j =>
          cases j with
          | zero =>
            simp at hf hg
            obtain ⟨rfl, rfl, rfl⟩ := hg
            subst hf
            obtain ⟨j', hj, _, hjs, _⟩ := info_of info28
            exact ⟨rfl, by decide, by decide, ⟨j', hj, hjs⟩, _, Try.underlying28, rfl, by decide⟩
          | succ j =>
            cases j with
            | zero =>
              simp at hf hg
              obtain ⟨rfl, rfl, rfl⟩ := hg
              subst hf
              obtain ⟨j', hj, _, hjs, _⟩ := info_of info30
              exact ⟨rfl, by decide, by decide, ⟨j', hj, hjs⟩, _, Try.underlying30, rfl, by decide⟩
            | succ j =>
              cases j with
              | zero =>
                simp at hf hg
                obtain ⟨rfl, rfl, rfl⟩ := hg
                subst hf
                obtain ⟨j', hj, _, hjs, _⟩ := info_of info4
                exact ⟨rfl, by decide, by decide, ⟨j', hj, hjs⟩, _, Try.underlying4, rfl, by decide⟩
              | succ j =>
                cases j with
                | zero =>
                  simp at hf hg
                  obtain ⟨rfl, rfl, rfl⟩ := hg
                  subst hf
                  obtain ⟨j', hj, _, hjs, _⟩ := info_of info4
                  exact ⟨rfl, by decide, by decide, ⟨j', hj, hjs⟩, _, Try.underlying4, rfl, by decide⟩
                | succ j =>
                  cases j with
                  | zero =>
                    simp at hf hg
                    obtain ⟨rfl, rfl, rfl⟩ := hg
                    subst hf
                    obtain ⟨j', hj, _, hjs, _⟩ := info_of info4
                    exact ⟨rfl, by decide, by decide, ⟨j', hj, hjs⟩, _, Try.underlying4, rfl, by decide⟩
                  | succ j =>
                    cases j with
                    | zero =>
                      simp at hf hg
                      obtain ⟨rfl, rfl, rfl⟩ := hg
                      subst hf
                      obtain ⟨j', hj, _, hjs, _⟩ := info_of info3
                      exact ⟨rfl, by decide, by decide, ⟨j', hj, hjs⟩, _, Try.underlying3, rfl, by decide⟩
                    | succ j =>
                      cases j with
                      | zero =>
                        simp at hf hg
                        obtain ⟨rfl, rfl, rfl⟩ := hg
                        subst hf
                        obtain ⟨j', hj, _, hjs, _⟩ := info_of info9
                        exact ⟨rfl, by decide, by decide, ⟨j', hj, hjs⟩, _, Try.underlying9, rfl, by decide⟩
                      | succ j =>
                        cases j with
                        | zero =>
                          simp at hf hg
                          obtain ⟨rfl, rfl, rfl⟩ := hg
                          subst hf
                          obtain ⟨j', hj, _, hjs, _⟩ := info_of info9
                          exact ⟨rfl, by decide, by decide, ⟨j', hj, hjs⟩, _, Try.underlying9, rfl, by decide⟩
                        | succ j =>
                          cases j with
                          | zero =>
                            simp at hf hg
                            obtain ⟨rfl, rfl, rfl⟩ := hg
                            subst hf
                            obtain ⟨j', hj, _, hjs, _⟩ := info_of info9
                            exact ⟨rfl, by decide, by decide, ⟨j', hj, hjs⟩, _, Try.underlying9, rfl, by decide⟩
                          | succ j =>
                            cases j with
                            | zero =>
                              simp at hf hg
                              obtain ⟨rfl, rfl, rfl⟩ := hg
                              subst hf
                              obtain ⟨j', hj, _, hjs, _⟩ := info_of info3
                              exact ⟨rfl, by decide, by decide, ⟨j', hj, hjs⟩, _, Try.underlying3, rfl, by decide⟩
                            | succ j =>
                              cases j with
                              | zero =>
                                simp at hf hg
                                obtain ⟨rfl, rfl, rfl⟩ := hg
                                subst hf
                                obtain ⟨j', hj, _, hjs, _⟩ := info_of info4
                                exact ⟨rfl, by decide, by decide, ⟨j', hj, hjs⟩, _, Try.underlying4, rfl, by decide⟩
                              | succ j =>
                                cases j with
                                | zero =>
                                  simp at hf hg
                                  obtain ⟨rfl, rfl, rfl⟩ := hg
                                  subst hf
                                  obtain ⟨j', hj, _, hjs, _⟩ := info_of info4
                                  exact ⟨rfl, by decide, by decide, ⟨j', hj, hjs⟩, _, Try.underlying4, rfl, by decide⟩
                                | succ j =>
                                  cases j with
                                  | zero =>
                                    simp at hf hg
                                    obtain ⟨rfl, rfl, rfl⟩ := hg
                                    subst hf
                                    obtain ⟨j', hj, _, hjs, _⟩ := info_of info30
                                    exact ⟨rfl, by decide, by decide, ⟨j', hj, hjs⟩, _, Try.underlying30, rfl, by decide⟩
                                  | succ j =>
                                    cases j with
                                    | zero =>
                                      simp at hf hg
                                      obtain ⟨rfl, rfl, rfl⟩ := hg
                                      subst hf
                                      obtain ⟨j', hj, _, hjs, _⟩ := info_of info9
                                      exact ⟨rfl, by decide, by decide, ⟨j', hj, hjs⟩, _, Try.underlying9, rfl, by decide⟩
                                    | succ j =>
                                      cases j with
                                      | zero =>
                                        simp at hf hg
                                        obtain ⟨rfl, rfl, rfl⟩ := hg
                                        subst hf
                                        obtain ⟨j', hj, _, hjs, _⟩ := info_of info3
                                        exact ⟨rfl, by decide, by decide, ⟨j', hj, hjs⟩, _, Try.underlying3, rfl, by decide⟩
                                      | succ j =>
                                        cases j with
                                        | zero =>
                                          simp at hf hg
                                          obtain ⟨rfl, rfl, rfl⟩ := hg
                                          subst hf
                                          obtain ⟨j', hj, _, hjs, _⟩ := info_of info3
                                          exact ⟨rfl, by decide, by decide, ⟨j', hj, hjs⟩, _, Try.underlying3, rfl, by decide⟩
                                        | succ j =>
                                          cases j with
                                          | zero =>
                                            simp at hf hg
                                            obtain ⟨rfl, rfl, rfl⟩ := hg
                                            subst hf
                                            obtain ⟨j', hj, _, hjs, _⟩ := info_of info3
                                            exact ⟨rfl, by decide, by decide, ⟨j', hj, hjs⟩, _, Try.underlying3, rfl, by decide⟩
                                          | succ j =>
                                            cases j with
                                            | zero =>
                                              simp at hf hg
                                              obtain ⟨rfl, rfl, rfl⟩ := hg
                                              subst hf
                                              obtain ⟨j', hj, _, hjs, _⟩ := info_of info3
                                              exact ⟨rfl, by decide, by decide, ⟨j', hj, hjs⟩, _, Try.underlying3, rfl, by decide⟩
                                            | succ j =>
                                              cases j with
                                              | zero =>
                                                simp at hf hg
                                                obtain ⟨rfl, rfl, rfl⟩ := hg
                                                subst hf
                                                obtain ⟨j', hj, _, hjs, _⟩ := info_of info3
                                                exact ⟨rfl, by decide, by decide, ⟨j', hj, hjs⟩, _, Try.underlying3, rfl, by decide⟩
                                              | succ j =>
                                                cases j with
                                                | zero =>
                                                  simp at hf hg
                                                  obtain ⟨rfl, rfl, rfl⟩ := hg
                                                  subst hf
                                                  obtain ⟨j', hj, _, hjs, _⟩ := info_of info4
                                                  exact ⟨rfl, by decide, by decide, ⟨j', hj, hjs⟩, _, Try.underlying4, rfl, by decide⟩
                                                | succ j =>
                                                  cases j with
                                                  | zero =>
                                                    simp at hf hg
                                                    obtain ⟨rfl, rfl, rfl⟩ := hg
                                                    subst hf
                                                    obtain ⟨j', hj, _, hjs, _⟩ := info_of info24
                                                    exact ⟨rfl, by decide, by decide, ⟨j', hj, hjs⟩, _, Try.underlying24, rfl, by decide⟩
                                                  | succ j =>
                                                    cases j with
                                                    | zero =>
                                                      simp at hf hg
                                                      obtain ⟨rfl, rfl, rfl⟩ := hg
                                                      subst hf
                                                      obtain ⟨j', hj, _, hjs, _⟩ := info_of info28
                                                      exact ⟨rfl, by decide, by decide, ⟨j', hj, hjs⟩, _, Try.underlying28, rfl, by decide⟩
                                                    | succ j =>
                                                      cases j with
                                                      | zero =>
                                                        simp at hf hg
                                                        obtain ⟨rfl, rfl, rfl⟩ := hg
                                                        subst hf
                                                        obtain ⟨j', hj, _, hjs, _⟩ := info_of info3
                                                        exact ⟨rfl, by decide, by decide, ⟨j', hj, hjs⟩, _, Try.underlying3, rfl, by decide⟩
                                                      | succ j =>
                                                        cases j with
                                                        | zero =>
                                                          simp at hf hg
                                                          obtain ⟨rfl, rfl, rfl⟩ := hg
                                                          subst hf
                                                          obtain ⟨j', hj, _, hjs, _⟩ := info_of info9
                                                          exact ⟨rfl, by decide, by decide, ⟨j', hj, hjs⟩, _, Try.underlying9, rfl, by decide⟩
                                                        | succ j =>
                                                          cases j with
                                                          | zero =>
                                                            simp at hf hg
                                                            obtain ⟨rfl, rfl, rfl⟩ := hg
                                                            subst hf
                                                            obtain ⟨j', hj, _, hjs, _⟩ := info_of info3
                                                            exact ⟨rfl, by decide, by decide, ⟨j', hj, hjs⟩, _, Try.underlying3, rfl, by decide⟩
                                                          | succ j =>
                                                            cases j with
                                                            | zero =>
                                                              simp at hf hg
                                                              obtain ⟨rfl, rfl, rfl⟩ := hg
                                                              subst hf
                                                              obtain ⟨j', hj, _, hjs, _⟩ := info_of info3
                                                              exact ⟨rfl, by decide, by decide, ⟨j', hj, hjs⟩, _, Try.underlying3, rfl, by decide⟩
                                                            | succ j =>
                                                              simp at hg
theorem ok42 : TdT Try.prog 42 (td 42) := by
  obtain ⟨i, hi, hz, hs, hb⟩ := info_of info42
  exact ⟨⟨_, Try.underlying42, rfl, ⟨_, rfl⟩⟩, i, hi, hs, hz, rfl, rfl⟩
theorem ok47 : TdT Try.prog 47 (td 47) := by
  obtain ⟨i, hi, hz, hs, hb⟩ := info_of info47
  exact ⟨⟨_, Try.underlying47, rfl, rfl⟩, i, hi, hs, hz, rfl, rfl⟩
theorem ok51 : TdT Try.prog 51 (td 51) := by
  obtain ⟨i, hi, hz, hs, hb⟩ := info_of info51
  refine ⟨_, i, Try.underlying51, hi, hs, hz, rfl, by decide, by simp [Value.oneCell'], rfl, ?_⟩
  intro j f o s g hf hg
  cases j with
  | zero =>
    simp at hf hg
    obtain ⟨rfl, rfl, rfl⟩ := hg
    subst hf
    obtain ⟨j', hj, _, hjs, _⟩ := info_of info9
    exact ⟨rfl, by decide, by decide, ⟨j', hj, hjs⟩, _, Try.underlying9, rfl, by decide⟩
  | succ j =>
    cases j with
    | zero =>
      simp at hf hg
      obtain ⟨rfl, rfl, rfl⟩ := hg
      subst hf
      obtain ⟨j', hj, _, hjs, _⟩ := info_of info9
      exact ⟨rfl, by decide, by decide, ⟨j', hj, hjs⟩, _, Try.underlying9, rfl, by decide⟩
    | succ j =>
      simp at hg
theorem ok57 : TdT Try.prog 57 (td 57) := by
  obtain ⟨i, hi, hz, hs, hb⟩ := info_of info57
  exact ⟨⟨_, Try.underlying57, rfl, rfl⟩, i, hi, hs, hz, rfl, rfl⟩
theorem ok59 : TdT Try.prog 59 (td 59) := by
  obtain ⟨i, hi, hz, hs, hb⟩ := info_of info59
  exact ⟨⟨_, Try.underlying59, rfl, rfl⟩, i, hi, hs, hz, rfl, rfl⟩
theorem ok62 : TdT Try.prog 62 (td 62) := by
  obtain ⟨i, hi, hz, hs, hb⟩ := info_of info62
  exact ⟨⟨_, Try.underlying62, rfl, ⟨_, rfl⟩⟩, i, hi, hs, hz, rfl, rfl⟩
theorem ok63 : TdT Try.prog 63 (td 63) := by
  obtain ⟨i, hi, hz, hs, hb⟩ := info_of info63
  obtain ⟨j, hj, hjz, hjs, hjb⟩ := info_of info20
  exact ⟨Try.underlying63, by decide, ⟨j, _, hj, hjs, hjb, hjz, rfl⟩, i, hi, hs, hz⟩
theorem tds : ∀ t, TdT Try.prog t (td t) := by
  intro t
  unfold td
  split
  · exact ok1
  · exact ok2
  · exact ok3
  · exact ok4
  · exact ok5
  · exact ok6
  · exact ok9
  · exact ok20
  · exact ok22
  · exact ok24
  · exact ok28
  · exact ok30
  · exact ok32
  · exact ok42
  · exact ok47
  · exact ok51
  · exact ok57
  · exact ok59
  · exact ok62
  · exact ok63
  · trivial

def conc : Nat → Bool
  | 2 => true
  | 3 => true
  | 4 => true
  | 5 => true
  | 6 => true
  | 9 => true
  | 22 => true
  | 24 => true
  | 28 => true
  | 30 => true
  | 32 => true
  | 47 => true
  | 51 => true
  | 57 => true
  | 59 => true
  | 63 => true
  | _ => false
theorem concs : ∀ t, conc t = true → ∃ d, Try.prog.underlying t = some d ∧ (match d with | .interface _ => false | _ => true) = true := by
  intro t h
  unfold conc at h
  split at h
  · exact ⟨_, Try.underlying2, rfl⟩
  · exact ⟨_, Try.underlying3, rfl⟩
  · exact ⟨_, Try.underlying4, rfl⟩
  · exact ⟨_, Try.underlying5, rfl⟩
  · exact ⟨_, Try.underlying6, rfl⟩
  · exact ⟨_, Try.underlying9, rfl⟩
  · exact ⟨_, Try.underlying22, rfl⟩
  · exact ⟨_, Try.underlying24, rfl⟩
  · exact ⟨_, Try.underlying28, rfl⟩
  · exact ⟨_, Try.underlying30, rfl⟩
  · exact ⟨_, Try.underlying32, rfl⟩
  · exact ⟨_, Try.underlying47, rfl⟩
  · exact ⟨_, Try.underlying51, rfl⟩
  · exact ⟨_, Try.underlying57, rfl⟩
  · exact ⟨_, Try.underlying59, rfl⟩
  · exact ⟨_, Try.underlying63, rfl⟩
  · cases h

def eqs : Nat → List Nat
  | 30 => [0, 0]
  | 51 => [2, 2]
  | _ => []
theorem eq30 : Try.prog.eqGuardType Try.prog.depth 30 = false ∧ Try.prog.stoodInHeld 30 = false ∧ ∃ flds, Try.prog.underlying 30 = some (.struct flds) ∧ EqFlds Try.prog 0 flds.toList (eqs 30) := by
  refine ⟨by kernel_rfl, by kernel_rfl, _, Try.underlying30, ?_⟩
  exact ⟨rfl, by decide, ⟨_, Try.underlying3, trivial⟩, rfl, by decide, ⟨_, Try.underlying3, trivial⟩, trivial⟩
theorem eq51 : Try.prog.eqGuardType Try.prog.depth 51 = false ∧ Try.prog.stoodInHeld 51 = false ∧ ∃ flds, Try.prog.underlying 51 = some (.struct flds) ∧ EqFlds Try.prog 0 flds.toList (eqs 51) := by
  refine ⟨by kernel_rfl, by kernel_rfl, _, Try.underlying51, ?_⟩
  exact ⟨rfl, by decide, ⟨_, Try.underlying9, trivial⟩, rfl, by decide, ⟨_, Try.underlying9, trivial⟩, trivial⟩
theorem eqss : ∀ t, eqs t ≠ [] → Try.prog.eqGuardType Try.prog.depth t = false ∧ Try.prog.stoodInHeld t = false ∧ ∃ flds, Try.prog.underlying t = some (.struct flds) ∧ EqFlds Try.prog 0 flds.toList (eqs t) := by
  intro t h
  unfold eqs at h
  split at h
  · exact eq30
  · exact eq51
  · exact absurd rfl h

/-- The functions. -/
noncomputable def fns : Nat → Option Func
  | 3 => some Try.f3
  | 4 => some Try.f4
  | 5 => some Try.f5
  | 6 => some Try.f6
  | 7 => some Try.f7
  | 8 => some Try.f8
  | 9 => some Try.f9
  | 10 => some Try.f10
  | 11 => some Try.f11
  | 12 => some Try.f12
  | 13 => some Try.f13
  | 14 => some Try.f14
  | 15 => some Try.f15
  | 16 => some Try.f16
  | 17 => some Try.f17
  | 18 => some Try.f18
  | 19 => some Try.f19
  | 20 => some Try.f20
  | 21 => some Try.f21
  | 22 => some Try.f22
  | 23 => some Try.f23
  | 24 => some Try.f24
  | 25 => some Try.f25
  | 26 => some Try.f26
  | 27 => some Try.f27
  | 28 => some Try.f28
  | 29 => some Try.f29
  | 30 => some Try.f30
  | 31 => some Try.f31
  | 32 => some Try.f32
  | 34 => some Try.f34
  | 35 => some Try.f35
  | 36 => some Try.f36
  | 37 => some Try.f37
  | 38 => some Try.f38
  | 39 => some Try.f39
  | 40 => some Try.f40
  | 41 => some Try.f41
  | 42 => some Try.f42
  | 45 => some Try.f45
  | 47 => some Try.f47
  | _ => none
theorem fnss : ∀ n fn, fns n = some fn → Try.prog.funcs[n]? = some fn ∧ fn.body.isSome = true ∧ (fn.name == "runtime.NumGoroutine") = false := by
  intro n fn h
  unfold fns at h
  split at h
  · cases h; exact ⟨Try.func3, rfl, by decide⟩
  · cases h; exact ⟨Try.func4, rfl, by decide⟩
  · cases h; exact ⟨Try.func5, rfl, by decide⟩
  · cases h; exact ⟨Try.func6, rfl, by decide⟩
  · cases h; exact ⟨Try.func7, rfl, by decide⟩
  · cases h; exact ⟨Try.func8, rfl, by decide⟩
  · cases h; exact ⟨Try.func9, rfl, by decide⟩
  · cases h; exact ⟨Try.func10, rfl, by decide⟩
  · cases h; exact ⟨Try.func11, rfl, by decide⟩
  · cases h; exact ⟨Try.func12, rfl, by decide⟩
  · cases h; exact ⟨Try.func13, rfl, by decide⟩
  · cases h; exact ⟨Try.func14, rfl, by decide⟩
  · cases h; exact ⟨Try.func15, rfl, by decide⟩
  · cases h; exact ⟨Try.func16, rfl, by decide⟩
  · cases h; exact ⟨Try.func17, rfl, by decide⟩
  · cases h; exact ⟨Try.func18, rfl, by decide⟩
  · cases h; exact ⟨Try.func19, rfl, by decide⟩
  · cases h; exact ⟨Try.func20, rfl, by decide⟩
  · cases h; exact ⟨Try.func21, rfl, by decide⟩
  · cases h; exact ⟨Try.func22, rfl, by decide⟩
  · cases h; exact ⟨Try.func23, rfl, by decide⟩
  · cases h; exact ⟨Try.func24, rfl, by decide⟩
  · cases h; exact ⟨Try.func25, rfl, by decide⟩
  · cases h; exact ⟨Try.func26, rfl, by decide⟩
  · cases h; exact ⟨Try.func27, rfl, by decide⟩
  · cases h; exact ⟨Try.func28, rfl, by decide⟩
  · cases h; exact ⟨Try.func29, rfl, by decide⟩
  · cases h; exact ⟨Try.func30, rfl, by decide⟩
  · cases h; exact ⟨Try.func31, rfl, by decide⟩
  · cases h; exact ⟨Try.func32, rfl, by decide⟩
  · cases h; exact ⟨Try.func34, rfl, by decide⟩
  · cases h; exact ⟨Try.func35, rfl, by decide⟩
  · cases h; exact ⟨Try.func36, rfl, by decide⟩
  · cases h; exact ⟨Try.func37, rfl, by decide⟩
  · cases h; exact ⟨Try.func38, rfl, by decide⟩
  · cases h; exact ⟨Try.func39, rfl, by decide⟩
  · cases h; exact ⟨Try.func40, rfl, by decide⟩
  · cases h; exact ⟨Try.func41, rfl, by decide⟩
  · cases h; exact ⟨Try.func42, rfl, by decide⟩
  · cases h; exact ⟨Try.func45, rfl, by decide⟩
  · cases h; exact ⟨Try.func47, rfl, by decide⟩
  · cases h

/-- Slots that nothing looks at any more, at each loop's head and behind it. -/
def kl : List (List Nat × List Nat × List Nat) := [([14, 15, 16, 17, 18, 21, 22, 23, 24, 25, 26, 27, 28, 29, 30, 31, 32, 33, 34, 35, 36, 37, 38, 19, 20], [0, 2, 4, 5, 6, 7, 8, 9, 10, 11, 12, 13, 14, 15, 16, 17, 18, 19, 20, 21, 22, 23, 24, 25, 26, 27, 28, 29, 30, 31, 32, 33, 34, 35, 36, 37, 38], [0, 1, 3, 4, 5, 6, 7, 8, 9, 10, 11, 12, 13, 14, 15, 16, 17, 18, 19, 20, 21, 22, 23, 24, 25, 26, 27, 28, 29, 30, 31, 32, 33, 34, 35, 36, 37, 38]),
  ([33, 34, 35, 5, 36, 37, 38, 39, 40, 41, 42, 43, 44, 32], [0, 1, 2, 4, 5, 6, 7, 8, 9, 10, 11, 12, 13, 14, 15, 16, 17, 18, 19, 20, 21, 22, 23, 24, 25, 26, 27, 28, 29, 33, 34, 35, 36, 37, 38, 39, 40, 41, 42, 43, 44, 45], [0, 1, 4, 5, 6, 7, 8, 9, 10, 11, 12, 13, 14, 15, 16, 17, 18, 19, 20, 21, 22, 23, 24, 25, 26, 27, 28, 29, 30, 31, 32, 33, 34, 35, 36, 37, 38, 39, 40, 41, 42, 43, 44, 45]),
  ([5, 6, 7, 8, 11, 12, 13, 14, 15, 16, 17, 9, 10], [1, 2, 5, 6, 7, 8, 9, 10, 11, 12, 13, 14, 15, 16, 17, 18], [0, 1, 4, 5, 6, 7, 8, 9, 10, 11, 12, 13, 14, 15, 16, 17, 18]),
  ([6, 7, 8, 9, 10, 11, 12, 13, 14, 15, 16, 17, 5], [1, 2, 4, 6, 7, 8, 9, 10, 11, 12, 13, 14, 15, 16, 17, 18, 19], [0, 1, 4, 5, 6, 7, 8, 9, 10, 11, 12, 13, 14, 15, 16, 17, 18, 19]),
  ([14, 15, 16, 17, 18, 19, 20, 21, 22, 23, 24, 25, 26, 27, 28, 29, 30, 31, 32, 33, 34, 35, 36, 13], [1, 2, 3, 5, 6, 7, 8, 9, 10, 11, 14, 15, 16, 17, 18, 19, 20, 21, 22, 23, 24, 25, 26, 27, 28, 29, 30, 31, 32, 33, 34, 35, 36, 37], [0, 1, 5, 6, 7, 8, 9, 10, 11, 12, 13, 14, 15, 16, 17, 18, 19, 20, 21, 22, 23, 24, 25, 26, 27, 28, 29, 30, 31, 32, 33, 34, 35, 36, 37]),
  ([7, 8, 11, 12, 13, 14, 15, 16, 17, 9, 10], [1, 2, 5, 6, 7, 8, 9, 10, 11, 12, 13, 14, 15, 16, 17, 18, 19, 20, 21, 22, 23, 24, 25], [1, 4, 5, 6, 7, 8, 9, 10, 11, 12, 13, 14, 15, 16, 17, 18, 19, 20, 21, 22, 23, 24, 25]),
  ([6, 7, 8, 9, 12, 13, 14, 15, 16, 17, 18, 10, 11], [1, 2, 5, 6, 7, 8, 9, 10, 11, 12, 13, 14, 15, 16, 17, 18, 19, 20, 21, 22, 23, 24, 25, 26, 27, 28], [0, 1, 4, 5, 6, 7, 8, 9, 10, 11, 12, 13, 14, 15, 16, 17, 18, 19, 20, 21, 22, 23, 24, 25, 26, 27, 28]),
  ([19, 20, 23, 24, 25, 26, 27, 21, 22], [0, 1, 2, 4, 6, 7, 8, 9, 10, 11, 12, 13, 14, 15, 16, 17, 18, 19, 20, 21, 22, 23, 24, 25, 26, 27, 28], [0, 1, 4, 5, 6, 7, 8, 9, 10, 11, 12, 13, 14, 15, 16, 17, 18, 19, 20, 21, 22, 23, 24, 25, 26, 27, 28]),
  ([9, 10, 11, 12, 13, 14, 15, 16, 17, 18, 19, 20, 21, 8], [1, 2, 3, 4, 5, 9, 10, 11, 12, 13, 14, 15, 16, 17, 18, 19, 20, 21], [0, 1, 2, 3, 4, 5, 6, 7, 8, 9, 10, 11, 12, 13, 14, 15, 16, 17, 18, 19, 20, 21]),
  ([6, 7, 8, 9, 12, 13, 14, 15, 16, 17, 18, 19, 10, 11], [2, 3, 4, 6, 7, 8, 9, 10, 11, 12, 13, 14, 15, 16, 17, 18, 19, 20], [1, 2, 3, 5, 6, 7, 8, 9, 10, 11, 12, 13, 14, 15, 16, 17, 18, 19, 20]),
  ([13, 14, 15, 16, 19, 20, 21, 22, 23, 24, 25, 26, 27, 28, 29, 30, 31, 32, 33, 34, 35, 36, 37, 17, 18], [2, 3, 4, 6, 7, 8, 9, 10, 11, 12, 13, 14, 15, 16, 17, 18, 19, 20, 21, 22, 23, 24, 25, 26, 27, 28, 29, 30, 31, 32, 33, 34, 35, 36, 37], [0, 1, 2, 3, 5, 6, 7, 8, 9, 10, 11, 12, 13, 14, 15, 16, 17, 18, 19, 20, 21, 22, 23, 24, 25, 26, 27, 28, 29, 30, 31, 32, 33, 34, 35, 36, 37]),
  ([11, 12, 13, 14, 15, 16, 17, 18, 19, 20, 21, 22, 23, 24, 25, 26, 27, 28, 29, 30, 31, 32, 10], [1, 2, 3, 4, 5, 6, 7, 11, 12, 13, 14, 15, 16, 17, 18, 19, 20, 21, 22, 23, 24, 25, 26, 27, 28, 29, 30, 31, 32], [0, 1, 2, 3, 4, 5, 6, 7, 8, 9, 10, 11, 12, 13, 14, 15, 16, 17, 18, 19, 20, 21, 22, 23, 24, 25, 26, 27, 28, 29, 30, 31, 32]),
  ([36, 37, 38, 39, 40, 43, 44, 45, 46, 47, 48, 49, 50, 51, 52, 53, 54, 55, 56, 57, 58, 59, 60, 41, 42], [0, 2, 5, 6, 7, 8, 9, 10, 11, 12, 13, 14, 15, 16, 17, 18, 19, 20, 21, 22, 23, 24, 25, 26, 27, 28, 29, 30, 31, 32, 33, 34, 35, 36, 37, 38, 39, 40, 41, 42, 43, 44, 45, 46, 47, 48, 49, 50, 51, 52, 53, 54, 55, 56, 57, 58, 59, 60, 61], [0, 1, 4, 5, 6, 7, 8, 9, 10, 11, 12, 13, 14, 15, 16, 17, 18, 19, 20, 21, 22, 23, 24, 25, 26, 27, 28, 29, 30, 31, 32, 33, 34, 35, 36, 37, 38, 39, 40, 41, 42, 43, 44, 45, 46, 47, 48, 49, 50, 51, 52, 53, 54, 55, 56, 57, 58, 59, 60, 61]),
  ([8, 9, 10, 11, 12, 13, 14, 15, 16, 7], [1, 2, 3, 5, 6, 8, 9, 10, 11, 12, 13, 14, 15, 16], [0, 1, 2, 3, 4, 5, 6, 7, 8, 9, 10, 11, 12, 13, 14, 15, 16]),
  ([5, 6, 9, 10, 11, 12, 13, 14, 15, 16, 17, 18, 7, 8], [1, 2, 5, 6, 7, 8, 9, 10, 11, 12, 13, 14, 15, 16, 17, 18, 19], [0, 1, 4, 5, 6, 7, 8, 9, 10, 11, 12, 13, 14, 15, 16, 17, 18, 19]),
  ([11, 12, 13, 14, 17, 18, 19, 20, 21, 22, 23, 24, 25, 15, 16], [2, 3, 4, 6, 7, 8, 9, 10, 11, 12, 13, 14, 15, 16, 17, 18, 19, 20, 21, 22, 23, 24, 25], [0, 1, 2, 3, 5, 6, 7, 8, 9, 10, 11, 12, 13, 14, 15, 16, 17, 18, 19, 20, 21, 22, 23, 24, 25]),
  ([13, 14, 15, 16, 19, 20, 21, 22, 23, 6, 24, 25, 26, 27, 28, 29, 30, 31, 32, 33, 34, 35, 36, 37, 17, 18], [2, 3, 4, 6, 7, 8, 9, 10, 11, 12, 13, 14, 15, 16, 17, 18, 19, 20, 21, 22, 23, 24, 25, 26, 27, 28, 29, 30, 31, 32, 33, 34, 35, 36, 37], [0, 1, 2, 3, 5, 6, 7, 8, 9, 10, 11, 12, 13, 14, 15, 16, 17, 18, 19, 20, 21, 22, 23, 24, 25, 26, 27, 28, 29, 30, 31, 32, 33, 34, 35, 36, 37])]
/-- The sizes of the elements of slices within a type's cells. -/
def zz : Nat → List Nat
  | 22 => [1]
  | 28 => [2]
  | 32 => [0, 0, 0, 0, 2, 0, 0, 0, 0, 0, 0, 0, 0, 0, 0, 0, 0, 0, 0, 0, 0, 0, 0, 0, 0, 0, 0, 2, 0, 0, 0, 0]
  | 63 => [1]
  | _ => []
/-- The table, with summaries of functions. -/
noncomputable def ctx (m : Nat → Option (List AV → Option (AV × List Blk))) : Ctx := ⟨td, conc, eqs, fns, zz, kl, m⟩
theorem ctx_ok {G : World → Prop} (m : Nat → Option (List AV → Option (AV × List Blk))) (hm : ∀ n f, m n = some f → Models Try.prog G n f ∧ ∃ fn, Try.prog.funcs[n]? = some fn ∧ fn.body.isSome = true ∧ (fn.name == "runtime.NumGoroutine") = false) : CtxOk Try.prog (ctx m) G :=
  ⟨TdOk.of tds concs, hm, eqss, fnss⟩
end Go.Proofs.Ytalkodandfjkmaa.AvT
