/- The table of types and functions of this program, for the interpreter over plain values; written by a program, proved by Lean. -/
import Derived.Test.YtcchccdbkpidpaaProg
import Derived.Test.YtcchccdbkpidpaaChecked
import Derived.Test.YtcchccdbkpidpaaAvM
set_option maxRecDepth 100000
set_option linter.unusedVariables false
namespace Go.Proofs.Ytcchccdbkpidpaa.AvT
open Go Go.RowKit Go.Proofs.Ytcchccdbkpidpaa.Av

/-- What a type is. -/
def td : Nat → TD
  | 1 => .one (.nilFunc)
  | 2 => .one (.int .i64 0)
  | 3 => .one (.int .i64 0)
  | 4 => .one (.bool false)
  | 5 => .one (.int .u8 0)
  | 9 => .one (.string ⟨#[]⟩)
  | 22 => .sl 34 32 312
  | 24 => .agg 4 [(0, 1, false), (1, 1, false), (2, 1, false), (3, 1, false)] [.slice none 0 0, .slice none 0 0, .slice none 0 0, .slice none 0 0]
  | 29 => .agg 2 [(0, 1, false), (1, 1, false)] [.int .i64 0, .int .i64 0]
  | 31 => .sl 81 2 32
  | 32 => .one (.int .u64 0)
  | 34 => .agg 32 [(0, 1, false), (1, 1, false), (2, 1, false), (3, 1, false), (4, 1, false), (5, 2, true), (7, 1, false), (8, 1, false), (9, 1, false), (10, 1, false), (11, 1, false), (12, 1, false), (13, 1, false), (14, 1, false), (15, 1, false), (16, 1, false), (17, 2, true), (19, 1, false), (20, 1, false), (21, 1, false), (22, 1, false), (23, 1, false), (24, 1, false), (25, 1, false), (26, 1, false), (27, 1, false), (28, 1, false), (29, 1, false), (30, 1, false), (31, 1, false)] [.int .i64 0, .string ⟨#[]⟩, .int .i64 0, .int .i64 0, .slice none 0 0, .int .i64 0, .int .i64 0, .bool false, .bool false, .bool false, .int .i64 0, .string ⟨#[]⟩, .string ⟨#[]⟩, .string ⟨#[]⟩, .int .i64 0, .bool false, .bool false, .int .i64 0, .int .i64 0, .string ⟨#[]⟩, .int .i64 0, .int .i64 0, .int .i64 0, .int .i64 0, .int .i64 0, .bool false, .int .u64 0, .slice none 0 0, .int .i64 0, .string ⟨#[]⟩, .int .i64 0, .int .i64 0]
  | 40 => .one (.nilIface)
  | 49 => .one (.nilFunc)
  | 56 => .one (.nilFunc)
  | 60 => .sl 22 1 24
  | 62 => .one (.int .i64 0)
  | 64 => .agg 2 [(0, 1, false), (1, 1, false)] [.int .i64 0, .int .i64 0]
  | 71 => .sl 74 2 16
  | 74 => .agg 2 [(0, 1, false), (1, 1, false)] [.int .i64 0, .nilFunc]
  | 76 => .one (.nilFunc)
  | 81 => .agg 2 [(0, 1, false), (1, 1, false)] [.string ⟨#[]⟩, .string ⟨#[]⟩]
  | 83 => .sl 5 1 1
  | 84 => .one (.map none)
  | 86 => .one (.nilFunc)
  | _ => .no

theorem info1 : (Try.prog.info? 1).map (fun i => (i.zero, i.size, i.bytes)) = some (some (.nilFunc), 1, 8) := by kernel_rfl
theorem info2 : (Try.prog.info? 2).map (fun i => (i.zero, i.size, i.bytes)) = some (some (.int .i64 0), 1, 8) := by kernel_rfl
theorem info3 : (Try.prog.info? 3).map (fun i => (i.zero, i.size, i.bytes)) = some (some (.int .i64 0), 1, 8) := by kernel_rfl
theorem info4 : (Try.prog.info? 4).map (fun i => (i.zero, i.size, i.bytes)) = some (some (.bool false), 1, 1) := by kernel_rfl
theorem info5 : (Try.prog.info? 5).map (fun i => (i.zero, i.size, i.bytes)) = some (some (.int .u8 0), 1, 1) := by kernel_rfl
theorem info9 : (Try.prog.info? 9).map (fun i => (i.zero, i.size, i.bytes)) = some (some (.string ⟨#[]⟩), 1, 16) := by kernel_rfl
theorem info22 : (Try.prog.info? 22).map (fun i => (i.zero, i.size, i.bytes)) = some (some (.slice none 0 0), 1, 24) := by kernel_rfl
theorem info24 : (Try.prog.info? 24).map (fun i => (i.zero, i.size, i.bytes)) = some (some (.agg #[.slice none 0 0, .slice none 0 0, .slice none 0 0, .slice none 0 0]), 4, 96) := by kernel_rfl
theorem info29 : (Try.prog.info? 29).map (fun i => (i.zero, i.size, i.bytes)) = some (some (.agg #[.int .i64 0, .int .i64 0]), 2, 16) := by kernel_rfl
theorem info31 : (Try.prog.info? 31).map (fun i => (i.zero, i.size, i.bytes)) = some (some (.slice none 0 0), 1, 24) := by kernel_rfl
theorem info32 : (Try.prog.info? 32).map (fun i => (i.zero, i.size, i.bytes)) = some (some (.int .u64 0), 1, 8) := by kernel_rfl
theorem info34 : (Try.prog.info? 34).map (fun i => (i.zero, i.size, i.bytes)) = some (some (.agg #[.int .i64 0, .string ⟨#[]⟩, .int .i64 0, .int .i64 0, .slice none 0 0, .int .i64 0, .int .i64 0, .bool false, .bool false, .bool false, .int .i64 0, .string ⟨#[]⟩, .string ⟨#[]⟩, .string ⟨#[]⟩, .int .i64 0, .bool false, .bool false, .int .i64 0, .int .i64 0, .string ⟨#[]⟩, .int .i64 0, .int .i64 0, .int .i64 0, .int .i64 0, .int .i64 0, .bool false, .int .u64 0, .slice none 0 0, .int .i64 0, .string ⟨#[]⟩, .int .i64 0, .int .i64 0]), 32, 312) := by kernel_rfl
theorem info40 : (Try.prog.info? 40).map (fun i => (i.zero, i.size, i.bytes)) = some (some (.nilIface), 1, 16) := by kernel_rfl
theorem info49 : (Try.prog.info? 49).map (fun i => (i.zero, i.size, i.bytes)) = some (some (.nilFunc), 1, 8) := by kernel_rfl
theorem info56 : (Try.prog.info? 56).map (fun i => (i.zero, i.size, i.bytes)) = some (some (.nilFunc), 1, 8) := by kernel_rfl
theorem info60 : (Try.prog.info? 60).map (fun i => (i.zero, i.size, i.bytes)) = some (some (.slice none 0 0), 1, 24) := by kernel_rfl
theorem info62 : (Try.prog.info? 62).map (fun i => (i.zero, i.size, i.bytes)) = some (some (.int .i64 0), 1, 8) := by kernel_rfl
theorem info64 : (Try.prog.info? 64).map (fun i => (i.zero, i.size, i.bytes)) = some (some (.agg #[.int .i64 0, .int .i64 0]), 2, 16) := by kernel_rfl
theorem info71 : (Try.prog.info? 71).map (fun i => (i.zero, i.size, i.bytes)) = some (some (.slice none 0 0), 1, 24) := by kernel_rfl
theorem info74 : (Try.prog.info? 74).map (fun i => (i.zero, i.size, i.bytes)) = some (some (.agg #[.int .i64 0, .nilFunc]), 2, 16) := by kernel_rfl
theorem info76 : (Try.prog.info? 76).map (fun i => (i.zero, i.size, i.bytes)) = some (some (.nilFunc), 1, 8) := by kernel_rfl
theorem info81 : (Try.prog.info? 81).map (fun i => (i.zero, i.size, i.bytes)) = some (some (.agg #[.string ⟨#[]⟩, .string ⟨#[]⟩]), 2, 32) := by kernel_rfl
theorem info83 : (Try.prog.info? 83).map (fun i => (i.zero, i.size, i.bytes)) = some (some (.slice none 0 0), 1, 24) := by kernel_rfl
theorem info84 : (Try.prog.info? 84).map (fun i => (i.zero, i.size, i.bytes)) = some (some (.map none), 1, 8) := by kernel_rfl
theorem info86 : (Try.prog.info? 86).map (fun i => (i.zero, i.size, i.bytes)) = some (some (.nilFunc), 1, 8) := by kernel_rfl

theorem ok1 : TdT Try.prog 1 (td 1) := by
  obtain ⟨i, hi, hz, hs, hb⟩ := info_of info1
  exact ⟨⟨_, Try.underlying1, rfl, ⟨_, _, _, rfl⟩⟩, i, hi, hs, hz, rfl, rfl⟩
theorem ok2 : TdT Try.prog 2 (td 2) := by
  obtain ⟨i, hi, hz, hs, hb⟩ := info_of info2
  exact ⟨⟨_, Try.underlying2, rfl, rfl⟩, i, hi, hs, hz, rfl, rfl⟩
theorem ok3 : TdT Try.prog 3 (td 3) := by
  obtain ⟨i, hi, hz, hs, hb⟩ := info_of info3
  exact ⟨⟨_, Try.underlying3, rfl, rfl⟩, i, hi, hs, hz, rfl, rfl⟩
theorem ok4 : TdT Try.prog 4 (td 4) := by
  obtain ⟨i, hi, hz, hs, hb⟩ := info_of info4
  exact ⟨⟨_, Try.underlying4, rfl, rfl⟩, i, hi, hs, hz, rfl, rfl⟩
theorem ok5 : TdT Try.prog 5 (td 5) := by
  obtain ⟨i, hi, hz, hs, hb⟩ := info_of info5
  exact ⟨⟨_, Try.underlying5, rfl, rfl⟩, i, hi, hs, hz, rfl, rfl⟩
theorem ok9 : TdT Try.prog 9 (td 9) := by
  obtain ⟨i, hi, hz, hs, hb⟩ := info_of info9
  exact ⟨⟨_, Try.underlying9, rfl, rfl⟩, i, hi, hs, hz, rfl, rfl⟩
theorem ok22 : TdT Try.prog 22 (td 22) := by
  obtain ⟨i, hi, hz, hs, hb⟩ := info_of info22
  obtain ⟨j, hj, hjz, hjs, hjb⟩ := info_of info34
  exact ⟨Try.underlying22, by decide, ⟨j, _, hj, hjs, hjb, hjz, rfl⟩, i, hi, hs, hz⟩
theorem ok24 : TdT Try.prog 24 (td 24) := by
  obtain ⟨i, hi, hz, hs, hb⟩ := info_of info24
  refine ⟨_, i, Try.underlying24, hi, hs, hz, rfl, by decide, by simp [Value.oneCell'], rfl, ?_⟩
  intro j f o s g hf hg
  cases j with
  | zero =>
    simp at hf hg
    obtain ⟨rfl, rfl, rfl⟩ := hg
    subst hf
    obtain ⟨j', hj, _, hjs, _⟩ := info_of info22
    exact ⟨rfl, by decide, by decide, ⟨j', hj, hjs⟩, _, Try.underlying22, rfl, by decide⟩
  | succ j =>
    cases j with
    | zero =>
      simp at hf hg
      obtain ⟨rfl, rfl, rfl⟩ := hg
      subst hf
      obtain ⟨j', hj, _, hjs, _⟩ := info_of info22
      exact ⟨rfl, by decide, by decide, ⟨j', hj, hjs⟩, _, Try.underlying22, rfl, by decide⟩
    | succ j =>
      cases j with
      | zero =>
        simp at hf hg
        obtain ⟨rfl, rfl, rfl⟩ := hg
        subst hf
        obtain ⟨j', hj, _, hjs, _⟩ := info_of info22
        exact ⟨rfl, by decide, by decide, ⟨j', hj, hjs⟩, _, Try.underlying22, rfl, by decide⟩
      | succ j =>
        cases j with
        | zero =>
          simp at hf hg
          obtain ⟨rfl, rfl, rfl⟩ := hg
          subst hf
          obtain ⟨j', hj, _, hjs, _⟩ := info_of info22
          exact ⟨rfl, by decide, by decide, ⟨j', hj, hjs⟩, _, Try.underlying22, rfl, by decide⟩
        | succ j =>
          simp at hg
theorem ok29 : TdT Try.prog 29 (td 29) := by
  obtain ⟨i, hi, hz, hs, hb⟩ := info_of info29
  refine ⟨_, i, Try.underlying29, hi, hs, hz, rfl, by decide, by simp [Value.oneCell'], rfl, ?_⟩
  intro j f o s g hf hg
  cases j with
  | zero =>
    simp at hf hg
    obtain ⟨rfl, rfl, rfl⟩ := hg
    subst hf
    obtain ⟨j', hj, _, hjs, _⟩ := info_of info3
    exact ⟨rfl, by decide, by decide, ⟨j', hj, hjs⟩, _, Try.underlying3, rfl, by decide⟩
  | succ j =>
    cases j with
    | zero =>
      simp at hf hg
      obtain ⟨rfl, rfl, rfl⟩ := hg
      subst hf
      obtain ⟨j', hj, _, hjs, _⟩ := info_of info3
      exact ⟨rfl, by decide, by decide, ⟨j', hj, hjs⟩, _, Try.underlying3, rfl, by decide⟩
    | succ j =>
      simp at hg
theorem ok31 : TdT Try.prog 31 (td 31) := by
  obtain ⟨i, hi, hz, hs, hb⟩ := info_of info31
  obtain ⟨j, hj, hjz, hjs, hjb⟩ := info_of info81
  exact ⟨Try.underlying31, by decide, ⟨j, _, hj, hjs, hjb, hjz, rfl⟩, i, hi, hs, hz⟩
theorem ok32 : TdT Try.prog 32 (td 32) := by
  obtain ⟨i, hi, hz, hs, hb⟩ := info_of info32
  exact ⟨⟨_, Try.underlying32, rfl, rfl⟩, i, hi, hs, hz, rfl, rfl⟩
theorem ok34 : TdT Try.prog 34 (td 34) := by
  obtain ⟨i, hi, hz, hs, hb⟩ := info_of info34
  refine ⟨_, i, Try.underlying34, hi, hs, hz, rfl, by decide, by simp [Value.oneCell'], rfl, ?_⟩
  intro j f o s g hf hg
  cases j with
  | zero =>
    simp at hf hg
    obtain ⟨rfl, rfl, rfl⟩ := hg
    subst hf
    obtain ⟨j', hj, _, hjs, _⟩ := info_of info3
    exact ⟨rfl, by decide, by decide, ⟨j', hj, hjs⟩, _, Try.underlying3, rfl, by decide⟩
  | succ j =>
    cases j with
    | zero =>
      simp at hf hg
      obtain ⟨rfl, rfl, rfl⟩ := hg
      subst hf
      obtain ⟨j', hj, _, hjs, _⟩ := info_of info9
      exact ⟨rfl, by decide, by decide, ⟨j', hj, hjs⟩, _, Try.underlying9, rfl, by decide⟩
    | succ j =>
      cases j with
      | zero =>
        simp at hf hg
        obtain ⟨rfl, rfl, rfl⟩ := hg
        subst hf
        obtain ⟨j', hj, _, hjs, _⟩ := info_of info3
        exact ⟨rfl, by decide, by decide, ⟨j', hj, hjs⟩, _, Try.underlying3, rfl, by decide⟩
      | succ j =>
        cases j with
        | zero =>
          simp at hf hg
          obtain ⟨rfl, rfl, rfl⟩ := hg
          subst hf
          obtain ⟨j', hj, _, hjs, _⟩ := info_of info3
          exact ⟨rfl, by decide, by decide, ⟨j', hj, hjs⟩, _, Try.underlying3, rfl, by decide⟩
        | succ j =>
          cases j with
          | zero =>
            simp at hf hg
            obtain ⟨rfl, rfl, rfl⟩ := hg
            subst hf
            obtain ⟨j', hj, _, hjs, _⟩ := info_of info31
            exact ⟨rfl, by decide, by decide, ⟨j', hj, hjs⟩, _, Try.underlying31, rfl, by decide⟩
          | succ j =>
            cases j with
            | zero =>
              simp at hf hg
              obtain ⟨rfl, rfl, rfl⟩ := hg
              subst hf
              obtain ⟨j', hj, _, hjs, _⟩ := info_of info29
              exact ⟨rfl, by decide, by decide, ⟨j', hj, hjs⟩, _, Try.underlying29, rfl, by decide⟩
            | succ j =>
              cases j with
              | zero =>
                simp at hf hg
                obtain ⟨rfl, rfl, rfl⟩ := hg
                subst hf
                obtain ⟨j', hj, _, hjs, _⟩ := info_of info4
                exact ⟨rfl, by decide, by decide, ⟨j', hj, hjs⟩, _, Try.underlying4, rfl, by decide⟩
              | succ j =>
                cases j with
                | zero =>
                  simp at hf hg
                  obtain ⟨rfl, rfl, rfl⟩ := hg
                  subst hf
                  obtain ⟨j', hj, _, hjs, _⟩ := info_of info4
                  exact ⟨rfl, by decide, by decide, ⟨j', hj, hjs⟩, _, Try.underlying4, rfl, by decide⟩
                | succ j =>
                  cases j with
                  | zero =>
                    simp at hf hg
                    obtain ⟨rfl, rfl, rfl⟩ := hg
                    subst hf
                    obtain ⟨j', hj, _, hjs, _⟩ := info_of info4
                    exact ⟨rfl, by decide, by decide, ⟨j', hj, hjs⟩, _, Try.underlying4, rfl, by decide⟩
                  | succ j =>
                    cases j with
                    | zero =>
                      simp at hf hg
                      obtain ⟨rfl, rfl, rfl⟩ := hg
                      subst hf
                      obtain ⟨j', hj, _, hjs, _⟩ := info_of info3
                      exact ⟨rfl, by decide, by decide, ⟨j', hj, hjs⟩, _, Try.underlying3, rfl, by decide⟩
                    | succ j =>
                      cases j with
                      | zero =>
                        simp at hf hg
                        obtain ⟨rfl, rfl, rfl⟩ := hg
                        subst hf
                        obtain ⟨j', hj, _, hjs, _⟩ := info_of info9
                        exact ⟨rfl, by decide, by decide, ⟨j', hj, hjs⟩, _, Try.underlying9, rfl, by decide⟩
                      | succ j =>
                        cases j with
                        | zero =>
                          simp at hf hg
                          obtain ⟨rfl, rfl, rfl⟩ := hg
                          subst hf
                          obtain ⟨j', hj, _, hjs, _⟩ := info_of info9
                          exact ⟨rfl, by decide, by decide, ⟨j', hj, hjs⟩, _, Try.underlying9, rfl, by decide⟩
                        | succ j =>
                          cases j with
                          | zero =>
                            simp at hf hg
                            obtain ⟨rfl, rfl, rfl⟩ := hg
                            subst hf
                            obtain ⟨j', hj, _, hjs, _⟩ := info_of info9
                            exact ⟨rfl, by decide, by decide, ⟨j', hj, hjs⟩, _, Try.underlying9, rfl, by decide⟩
                          | succ j =>
                            cases j with
                            | zero =>
                              simp at hf hg
                              obtain ⟨rfl, rfl, rfl⟩ := hg
                              subst hf
                              obtain ⟨j', hj, _, hjs, _⟩ := info_of info3
                              exact ⟨rfl, by decide, by decide, ⟨j', hj, hjs⟩, _, Try.underlying3, rfl, by decide⟩
                            | succ j =>
                              cases j with
                              | zero =>
                                simp at hf hg
                                obtain ⟨rfl, rfl, rfl⟩ := hg
                                subst hf
                                obtain ⟨j', hj, _, hjs, _⟩ := info_of info4
                                exact ⟨rfl, by decide, by decide, ⟨j', hj, hjs⟩, _, Try.underlying4, rfl, by decide⟩
                              | succ j =>
                                cases j with
                                | zero =>
                                  simp at hf hg
                                  obtain ⟨rfl, rfl, rfl⟩ := hg
                                  subst hf
                                  obtain ⟨j', hj, _, hjs, _⟩ := info_of info4
                                  exact ⟨rfl, by decide, by decide, ⟨j', hj, hjs⟩, _, Try.underlying4, rfl, by decide⟩
                                | succ j =>
                                  cases j with
                                  | zero =>
                                    simp at hf hg
                                    obtain ⟨rfl, rfl, rfl⟩ := hg
                                    subst hf
                                    obtain ⟨j', hj, _, hjs, _⟩ := info_of info29
                                    exact ⟨rfl, by decide, by decide, ⟨j', hj, hjs⟩, _, Try.underlying29, rfl, by decide⟩
                                  | succ j =>
                                    cases j with
                                    | zero =>
                                      simp at hf hg
                                      obtain ⟨rfl, rfl, rfl⟩ := hg
                                      subst hf
                                      obtain ⟨j', hj, _, hjs, _⟩ := info_of info9
                                      exact ⟨rfl, by decide, by decide, ⟨j', hj, hjs⟩, _, Try.underlying9, rfl, by decide⟩
                                    | succ j =>
                                      cases j with
                                      | zero =>
                                        simp at hf hg
                                        obtain ⟨rfl, rfl, rfl⟩ := hg
                                        subst hf
                                        obtain ⟨j', hj, _, hjs, _⟩ := info_of info3
                                        exact ⟨rfl, by decide, by decide, ⟨j', hj, hjs⟩, _, Try.underlying3, rfl, by decide⟩
                                      | succ j =>
                                        cases j with
                                        | zero =>
                                          simp at hf hg
                                          obtain ⟨rfl, rfl, rfl⟩ := hg
                                          subst hf
                                          obtain ⟨j', hj, _, hjs, _⟩ := info_of info3
                                          exact ⟨rfl, by decide, by decide, ⟨j', hj, hjs⟩, _, Try.underlying3, rfl, by decide⟩
                                        | succ j =>
                                          cases j with
                                          | zero =>
                                            simp at hf hg
                                            obtain ⟨rfl, rfl, rfl⟩ := hg
                                            subst hf
                                            obtain ⟨j', hj, _, hjs, _⟩ := info_of info3
                                            exact ⟨rfl, by decide, by decide, ⟨j', hj, hjs⟩, _, Try.underlying3, rfl, by decide⟩
                                          | succ j =>
                                            cases j with
                                            | zero =>
                                              simp at hf hg
                                              obtain ⟨rfl, rfl, rfl⟩ := hg
                                              subst hf
                                              obtain ⟨j', hj, _, hjs, _⟩ := info_of info3
                                              exact ⟨rfl, by decide, by decide, ⟨j', hj, hjs⟩, _, Try.underlying3, rfl, by decide⟩
                                            | succ j =>
                                              cases j with
                                              | zero =>
                                                simp at hf hg
                                                obtain ⟨rfl, rfl, rfl⟩ := hg
                                                subst hf
                                                obtain ⟨j', hj, _, hjs, _⟩ := info_of info3
                                                exact ⟨rfl, by decide, by decide, ⟨j', hj, hjs⟩, _, Try.underlying3, rfl, by decide⟩
                                              | succ j =>
                                                cases j with
                                                | zero =>
                                                  simp at hf hg
                                                  obtain ⟨rfl, rfl, rfl⟩ := hg
                                                  subst hf
                                                  obtain ⟨j', hj, _, hjs, _⟩ := info_of info4
                                                  exact ⟨rfl, by decide, by decide, ⟨j', hj, hjs⟩, _, Try.underlying4, rfl, by decide⟩
                                                | succ j =>
                                                  cases j with
                                                  | zero =>
                                                    simp at hf hg
                                                    obtain ⟨rfl, rfl, rfl⟩ := hg
                                                    subst hf
                                                    obtain ⟨j', hj, _, hjs, _⟩ := info_of info32
                                                    exact ⟨rfl, by decide, by decide, ⟨j', hj, hjs⟩, _, Try.underlying32, rfl, by decide⟩
                                                  | succ j =>
                                                    cases j with
                                                    | zero =>
                                                      simp at hf hg
                                                      obtain ⟨rfl, rfl, rfl⟩ := hg
                                                      subst hf
                                                      obtain ⟨j', hj, _, hjs, _⟩ := info_of info31
                                                      exact ⟨rfl, by decide, by decide, ⟨j', hj, hjs⟩, _, Try.underlying31, rfl, by decide⟩
                                                    | succ j =>
                                                      cases j with
                                                      | zero =>
                                                        simp at hf hg
                                                        obtain ⟨rfl, rfl, rfl⟩ := hg
                                                        subst hf
                                                        obtain ⟨j', hj, _, hjs, _⟩ := info_of info3
                                                        exact ⟨rfl, by decide, by decide, ⟨j', hj, hjs⟩, _, Try.underlying3, rfl, by decide⟩
                                                      | succ j =>
                                                        cases j with
                                                        | zero =>
                                                          simp at hf hg
                                                          obtain ⟨rfl, rfl, rfl⟩ := hg
                                                          subst hf
                                                          obtain ⟨j', hj, _, hjs, _⟩ := info_of info9
                                                          exact ⟨rfl, by decide, by decide, ⟨j', hj, hjs⟩, _, Try.underlying9, rfl, by decide⟩
                                                        | succ j =>
                                                          cases j with
                                                          | zero =>
                                                            simp at hf hg
                                                            obtain ⟨rfl, rfl, rfl⟩ := hg
                                                            subst hf
                                                            obtain ⟨j', hj, _, hjs, _⟩ := info_of info3
                                                            exact ⟨rfl, by decide, by decide, ⟨j', hj, hjs⟩, _, Try.underlying3, rfl, by decide⟩
                                                          | succ j =>
                                                            cases j with
                                                            | zero =>
                                                              simp at hf hg
                                                              obtain ⟨rfl, rfl, rfl⟩ := hg
                                                              subst hf
                                                              obtain ⟨j', hj, _, hjs, _⟩ := info_of info3
                                                              exact ⟨rfl, by decide, by decide, ⟨j', hj, hjs⟩, _, Try.underlying3, rfl, by decide⟩
                                                            | succ j =>
                                                              simp at hg
theorem ok40 : TdT Try.prog 40 (td 40) := by
  obtain ⟨i, hi, hz, hs, hb⟩ := info_of info40
  exact ⟨⟨_, Try.underlying40, rfl, ⟨_, rfl⟩⟩, i, hi, hs, hz, rfl, rfl⟩
theorem ok49 : TdT Try.prog 49 (td 49) := by
  obtain ⟨i, hi, hz, hs, hb⟩ := info_of info49
  exact ⟨⟨_, Try.underlying49, rfl, ⟨_, _, _, rfl⟩⟩, i, hi, hs, hz, rfl, rfl⟩
theorem ok56 : TdT Try.prog 56 (td 56) := by
  obtain ⟨i, hi, hz, hs, hb⟩ := info_of info56
  exact ⟨⟨_, Try.underlying56, rfl, ⟨_, _, _, rfl⟩⟩, i, hi, hs, hz, rfl, rfl⟩
theorem ok60 : TdT Try.prog 60 (td 60) := by
  obtain ⟨i, hi, hz, hs, hb⟩ := info_of info60
  obtain ⟨j, hj, hjz, hjs, hjb⟩ := info_of info22
  exact ⟨Try.underlying60, by decide, ⟨j, _, hj, hjs, hjb, hjz, rfl⟩, i, hi, hs, hz⟩
theorem ok62 : TdT Try.prog 62 (td 62) := by
  obtain ⟨i, hi, hz, hs, hb⟩ := info_of info62
  exact ⟨⟨_, Try.underlying62, rfl, rfl⟩, i, hi, hs, hz, rfl, rfl⟩
theorem ok64 : TdT Try.prog 64 (td 64) := by
  obtain ⟨i, hi, hz, hs, hb⟩ := info_of info64
  refine ⟨_, i, Try.underlying64, hi, hs, hz, rfl, by decide, by simp [Value.oneCell'], rfl, ?_⟩
  intro j f o s g hf hg
  cases j with
  | zero =>
    simp at hf hg
    obtain ⟨rfl, rfl, rfl⟩ := hg
    subst hf
    obtain ⟨j', hj, _, hjs, _⟩ := info_of info62
    exact ⟨rfl, by decide, by decide, ⟨j', hj, hjs⟩, _, Try.underlying62, rfl, by decide⟩
  | succ j =>
    cases j with
    | zero =>
      simp at hf hg
      obtain ⟨rfl, rfl, rfl⟩ := hg
      subst hf
      obtain ⟨j', hj, _, hjs, _⟩ := info_of info3
      exact ⟨rfl, by decide, by decide, ⟨j', hj, hjs⟩, _, Try.underlying3, rfl, by decide⟩
    | succ j =>
      simp at hg
theorem ok71 : TdT Try.prog 71 (td 71) := by
  obtain ⟨i, hi, hz, hs, hb⟩ := info_of info71
  obtain ⟨j, hj, hjz, hjs, hjb⟩ := info_of info74
  exact ⟨Try.underlying71, by decide, ⟨j, _, hj, hjs, hjb, hjz, rfl⟩, i, hi, hs, hz⟩
theorem ok74 : TdT Try.prog 74 (td 74) := by
  obtain ⟨i, hi, hz, hs, hb⟩ := info_of info74
  refine ⟨_, i, Try.underlying74, hi, hs, hz, rfl, by decide, by simp [Value.oneCell'], rfl, ?_⟩
  intro j f o s g hf hg
  cases j with
  | zero =>
    simp at hf hg
    obtain ⟨rfl, rfl, rfl⟩ := hg
    subst hf
    obtain ⟨j', hj, _, hjs, _⟩ := info_of info62
    exact ⟨rfl, by decide, by decide, ⟨j', hj, hjs⟩, _, Try.underlying62, rfl, by decide⟩
  | succ j =>
    cases j with
    | zero =>
      simp at hf hg
      obtain ⟨rfl, rfl, rfl⟩ := hg
      subst hf
      obtain ⟨j', hj, _, hjs, _⟩ := info_of info49
      exact ⟨rfl, by decide, by decide, ⟨j', hj, hjs⟩, _, Try.underlying49, rfl, by decide⟩
    | succ j =>
      simp at hg
theorem ok76 : TdT Try.prog 76 (td 76) := by
  obtain ⟨i, hi, hz, hs, hb⟩ := info_of info76
  exact ⟨⟨_, Try.underlying76, rfl, ⟨_, _, _, rfl⟩⟩, i, hi, hs, hz, rfl, rfl⟩
theorem ok81 : TdT Try.prog 81 (td 81) := by
  obtain ⟨i, hi, hz, hs, hb⟩ := info_of info81
  refine ⟨_, i, Try.underlying81, hi, hs, hz, rfl, by decide, by simp [Value.oneCell'], rfl, ?_⟩
  intro j f o s g hf hg
  cases j with
  | zero =>
    simp at hf hg
    obtain ⟨rfl, rfl, rfl⟩ := hg
    subst hf
    obtain ⟨j', hj, _, hjs, _⟩ := info_of info9
    exact ⟨rfl, by decide, by decide, ⟨j', hj, hjs⟩, _, Try.underlying9, rfl, by decide⟩
  | succ j =>
    cases j with
    | zero =>
      simp at hf hg
      obtain ⟨rfl, rfl, rfl⟩ := hg
      subst hf
      obtain ⟨j', hj, _, hjs, _⟩ := info_of info9
      exact ⟨rfl, by decide, by decide, ⟨j', hj, hjs⟩, _, Try.underlying9, rfl, by decide⟩
    | succ j =>
      simp at hg
theorem ok83 : TdT Try.prog 83 (td 83) := by
  obtain ⟨i, hi, hz, hs, hb⟩ := info_of info83
  obtain ⟨j, hj, hjz, hjs, hjb⟩ := info_of info5
  exact ⟨Try.underlying83, by decide, ⟨j, _, hj, hjs, hjb, hjz, rfl⟩, i, hi, hs, hz⟩
theorem ok84 : TdT Try.prog 84 (td 84) := by
  obtain ⟨i, hi, hz, hs, hb⟩ := info_of info84
  exact ⟨⟨_, Try.underlying84, rfl, trivial⟩, i, hi, hs, hz, rfl, rfl⟩
theorem ok86 : TdT Try.prog 86 (td 86) := by
  obtain ⟨i, hi, hz, hs, hb⟩ := info_of info86
  exact ⟨⟨_, Try.underlying86, rfl, ⟨_, _, _, rfl⟩⟩, i, hi, hs, hz, rfl, rfl⟩
theorem tds : ∀ t, TdT Try.prog t (td t) := by
  intro t
  unfold td
  split
  · exact ok1
  · exact ok2
  · exact ok3
  · exact ok4
  · exact ok5
  · exact ok9
  · exact ok22
  · exact ok24
  · exact ok29
  · exact ok31
  · exact ok32
  · exact ok34
  · exact ok40
  · exact ok49
  · exact ok56
  · exact ok60
  · exact ok62
  · exact ok64
  · exact ok71
  · exact ok74
  · exact ok76
  · exact ok81
  · exact ok83
  · exact ok84
  · exact ok86
  · trivial

def conc : Nat → Bool
  | 2 => true
  | 3 => true
  | 4 => true
  | 5 => true
  | 9 => true
  | 22 => true
  | 24 => true
  | 29 => true
  | 31 => true
  | 32 => true
  | 34 => true
  | 60 => true
  | 62 => true
  | 64 => true
  | 71 => true
  | 74 => true
  | 81 => true
  | 83 => true
  | _ => false
theorem concs : ∀ t, conc t = true → ∃ d, Try.prog.underlying t = some d ∧ (match d with | .interface _ => false | _ => true) = true := by
  intro t h
  unfold conc at h
  split at h
  · exact ⟨_, Try.underlying2, rfl⟩
  · exact ⟨_, Try.underlying3, rfl⟩
  · exact ⟨_, Try.underlying4, rfl⟩
  · exact ⟨_, Try.underlying5, rfl⟩
  · exact ⟨_, Try.underlying9, rfl⟩
  · exact ⟨_, Try.underlying22, rfl⟩
  · exact ⟨_, Try.underlying24, rfl⟩
  · exact ⟨_, Try.underlying29, rfl⟩
  · exact ⟨_, Try.underlying31, rfl⟩
  · exact ⟨_, Try.underlying32, rfl⟩
  · exact ⟨_, Try.underlying34, rfl⟩
  · exact ⟨_, Try.underlying60, rfl⟩
  · exact ⟨_, Try.underlying62, rfl⟩
  · exact ⟨_, Try.underlying64, rfl⟩
  · exact ⟨_, Try.underlying71, rfl⟩
  · exact ⟨_, Try.underlying74, rfl⟩
  · exact ⟨_, Try.underlying81, rfl⟩
  · exact ⟨_, Try.underlying83, rfl⟩
  · cases h

def eqs : Nat → List Nat
  | 29 => [0, 0]
  | 64 => [0, 0]
  | 81 => [2, 2]
  | _ => []
theorem eq29 : Try.prog.eqGuardType Try.prog.depth 29 = false ∧ Try.prog.stoodInHeld 29 = false ∧ ∃ flds, Try.prog.underlying 29 = some (.struct flds) ∧ EqFlds Try.prog 0 flds.toList (eqs 29) := by
  refine ⟨by kernel_rfl, by kernel_rfl, _, Try.underlying29, ?_⟩
  exact ⟨rfl, by decide, ⟨_, Try.underlying3, trivial⟩, rfl, by decide, ⟨_, Try.underlying3, trivial⟩, trivial⟩
theorem eq64 : Try.prog.eqGuardType Try.prog.depth 64 = false ∧ Try.prog.stoodInHeld 64 = false ∧ ∃ flds, Try.prog.underlying 64 = some (.struct flds) ∧ EqFlds Try.prog 0 flds.toList (eqs 64) := by
  refine ⟨by kernel_rfl, by kernel_rfl, _, Try.underlying64, ?_⟩
  exact ⟨rfl, by decide, ⟨_, Try.underlying62, trivial⟩, rfl, by decide, ⟨_, Try.underlying3, trivial⟩, trivial⟩
theorem eq81 : Try.prog.eqGuardType Try.prog.depth 81 = false ∧ Try.prog.stoodInHeld 81 = false ∧ ∃ flds, Try.prog.underlying 81 = some (.struct flds) ∧ EqFlds Try.prog 0 flds.toList (eqs 81) := by
  refine ⟨by kernel_rfl, by kernel_rfl, _, Try.underlying81, ?_⟩
  exact ⟨rfl, by decide, ⟨_, Try.underlying9, trivial⟩, rfl, by decide, ⟨_, Try.underlying9, trivial⟩, trivial⟩
theorem eqss : ∀ t, eqs t ≠ [] → Try.prog.eqGuardType Try.prog.depth t = false ∧ Try.prog.stoodInHeld t = false ∧ ∃ flds, Try.prog.underlying t = some (.struct flds) ∧ EqFlds Try.prog 0 flds.toList (eqs t) := by
  intro t h
  unfold eqs at h
  split at h
  · exact eq29
  · exact eq64
  · exact eq81
  · exact absurd rfl h

/-- The functions. -/
noncomputable def fns : Nat → Option Func
  | 3 => some Try.f3
  | 4 => some Try.f4
  | 5 => some Try.f5
  | 6 => some Try.f6
  | 7 => some Try.f7
  | 8 => some Try.f8
  | 9 => some Try.f9
  | 10 => some Try.f10
  | 11 => some Try.f11
  | 12 => some Try.f12
  | 13 => some Try.f13
  | 14 => some Try.f14
  | 15 => some Try.f15
  | 16 => some Try.f16
  | 17 => some Try.f17
  | 18 => some Try.f18
  | 19 => some Try.f19
  | 20 => some Try.f20
  | 21 => some Try.f21
  | 22 => some Try.f22
  | 23 => some Try.f23
  | 24 => some Try.f24
  | 25 => some Try.f25
  | 26 => some Try.f26
  | 27 => some Try.f27
  | 28 => some Try.f28
  | 29 => some Try.f29
  | 30 => some Try.f30
  | 31 => some Try.f31
  | 32 => some Try.f32
  | 33 => some Try.f33
  | 34 => some Try.f34
  | 35 => some Try.f35
  | 36 => some Try.f36
  | 37 => some Try.f37
  | 38 => some Try.f38
  | 39 => some Try.f39
  | 40 => some Try.f40
  | 41 => some Try.f41
  | 42 => some Try.f42
  | 43 => some Try.f43
  | 44 => some Try.f44
  | 45 => some Try.f45
  | 46 => some Try.f46
  | 47 => some Try.f47
  | 48 => some Try.f48
  | 49 => some Try.f49
  | 50 => some Try.f50
  | 52 => some Try.f52
  | 53 => some Try.f53
  | 54 => some Try.f54
  | 55 => some Try.f55
  | 56 => some Try.f56
  | 57 => some Try.f57
  | 58 => some Try.f58
  | 59 => some Try.f59
  | 60 => some Try.f60
  | 61 => some Try.f61
  | 64 => some Try.f64
  | 65 => some Try.f65
  | 66 => some Try.f66
  | 67 => some Try.f67
  | 68 => some Try.f68
  | 69 => some Try.f69
  | 70 => some Try.f70
  | 71 => some Try.f71
  | 72 => some Try.f72
  | 90 => some Try.f90
  | _ => none
theorem fnss : ∀ n fn, fns n = some fn → Try.prog.funcs[n]? = some fn ∧ fn.body.isSome = true ∧ (fn.name == "runtime.NumGoroutine") = false := by
  intro n fn h
  unfold fns at h
  split at h
  · cases h; exact ⟨Try.func3, rfl, by decide⟩
  · cases h; exact ⟨Try.func4, rfl, by decide⟩
  · cases h; exact ⟨Try.func5, rfl, by decide⟩
  · cases h; exact ⟨Try.func6, rfl, by decide⟩
  · cases h; exact ⟨Try.func7, rfl, by decide⟩
  · cases h; exact ⟨Try.func8, rfl, by decide⟩
  · cases h; exact ⟨Try.func9, rfl, by decide⟩
  · cases h; exact ⟨Try.func10, rfl, by decide⟩
  · cases h; exact ⟨Try.func11, rfl, by decide⟩
  · cases h; exact ⟨Try.func12, rfl, by decide⟩
  · cases h; exact ⟨Try.func13, rfl, by decide⟩
  · cases h; exact ⟨Try.func14, rfl, by decide⟩
  · cases h; exact ⟨Try.func15, rfl, by decide⟩
  · cases h; exact ⟨Try.func16, rfl, by decide⟩
  · cases h; exact ⟨Try.func17, rfl, by decide⟩
  · cases h; exact ⟨Try.func18, rfl, by decide⟩
  · cases h; exact ⟨Try.func19, rfl, by decide⟩
  · cases h; exact ⟨Try.func20, rfl, by decide⟩
  · cases h; exact ⟨Try.func21, rfl, by decide⟩
  · cases h; exact ⟨Try.func22, rfl, by decide⟩
  · cases h; exact ⟨Try.func23, rfl, by decide⟩
  · cases h; exact ⟨Try.func24, rfl, by decide⟩
  · cases h; exact ⟨Try.func25, rfl, by decide⟩
  · cases h; exact ⟨Try.func26, rfl, by decide⟩
  · cases h; exact ⟨Try.func27, rfl, by decide⟩
  · cases h; exact ⟨Try.func28, rfl, by decide⟩
  · cases h; exact ⟨Try.func29, rfl, by decide⟩
  · cases h; exact ⟨Try.func30, rfl, by decide⟩
  · cases h; exact ⟨Try.func31, rfl, by decide⟩
  · cases h; exact ⟨Try.func32, rfl, by decide⟩
  · cases h; exact ⟨Try.func33, rfl, by decide⟩
  · cases h; exact ⟨Try.func34, rfl, by decide⟩
  · cases h; exact ⟨Try.func35, rfl, by decide⟩
  · cases h; exact ⟨Try.func36, rfl, by decide⟩
  · cases h; exact ⟨Try.func37, rfl, by decide⟩
  · cases h; exact ⟨Try.func38, rfl, by decide⟩
  · cases h; exact ⟨Try.func39, rfl, by decide⟩
  · cases h; exact ⟨Try.func40, rfl, by decide⟩
  · cases h; exact ⟨Try.func41, rfl, by decide⟩
  · cases h; exact ⟨Try.func42, rfl, by decide⟩
  · cases h; exact ⟨Try.func43, rfl, by decide⟩
  · cases h; exact ⟨Try.func44, rfl, by decide⟩
  · cases h; exact ⟨Try.func45, rfl, by decide⟩
  · cases h; exact ⟨Try.func46, rfl, by decide⟩
  · cases h; exact ⟨Try.func47, rfl, by decide⟩
  · cases h; exact ⟨Try.func48, rfl, by decide⟩
  · cases h; exact ⟨Try.func49, rfl, by decide⟩
  · cases h; exact ⟨Try.func50, rfl, by decide⟩
  · cases h; exact ⟨Try.func52, rfl, by decide⟩
  · cases h; exact ⟨Try.func53, rfl, by decide⟩
  · cases h; exact ⟨Try.func54, rfl, by decide⟩
  · cases h; exact ⟨Try.func55, rfl, by decide⟩
  · cases h; exact ⟨Try.func56, rfl, by decide⟩
  · cases h; exact ⟨Try.func57, rfl, by decide⟩
  · cases h; exact ⟨Try.func58, rfl, by decide⟩
  · cases h; exact ⟨Try.func59, rfl, by decide⟩
  · cases h; exact ⟨Try.func60, rfl, by decide⟩
  · cases h; exact ⟨Try.func61, rfl, by decide⟩
  · cases h; exact ⟨Try.func64, rfl, by decide⟩
  · cases h; exact ⟨Try.func65, rfl, by decide⟩
  · cases h; exact ⟨Try.func66, rfl, by decide⟩
  · cases h; exact ⟨Try.func67, rfl, by decide⟩
  · cases h; exact ⟨Try.func68, rfl, by decide⟩
  · cases h; exact ⟨Try.func69, rfl, by decide⟩
  · cases h; exact ⟨Try.func70, rfl, by decide⟩
  · cases h; exact ⟨Try.func71, rfl, by decide⟩
  · cases h; exact ⟨Try.func72, rfl, by decide⟩
  · cases h; exact ⟨Try.func90, rfl, by decide⟩
  · cases h

/-- Slots that nothing looks at any more, at each loop's head and behind it. -/
def kl : List (List Nat × List Nat × List Nat) := [([40, 41, 42, 43, 44, 47, 48, 49, 50, 51, 52, 53, 54, 55, 56, 57, 58, 59, 60, 61, 62, 63, 64, 65, 66, 67, 68, 45, 46], [0, 1, 3, 4, 7, 8, 9, 10, 11, 12, 13, 14, 15, 16, 17, 18, 19, 20, 21, 22, 23, 24, 25, 26, 27, 28, 29, 30, 31, 32, 33, 34, 35, 36, 37, 38, 39, 40, 41, 42, 43, 44, 45, 46, 47, 48, 49, 50, 51, 52, 53, 54, 55, 56, 57, 58, 59, 60, 61, 62, 63, 64, 65, 66, 67, 68, 69, 70, 71, 72, 73, 74, 75, 76, 77, 78, 79, 80, 81, 82, 83, 84, 85, 86, 87, 88, 89, 90, 91, 92, 93, 94, 95, 96, 97, 98, 99, 100, 101, 102, 103, 104, 105, 106, 107, 108, 109, 110, 111, 112, 113], [0, 1, 3, 6, 7, 8, 9, 10, 11, 12, 13, 14, 15, 16, 17, 18, 19, 20, 21, 22, 23, 24, 25, 26, 27, 28, 29, 30, 31, 32, 33, 34, 35, 36, 37, 38, 39, 40, 41, 42, 43, 44, 45, 46, 47, 48, 49, 50, 51, 52, 53, 54, 55, 56, 57, 58, 59, 60, 61, 62, 63, 64, 65, 66, 67, 68, 69, 70, 71, 72, 73, 74, 75, 76, 77, 78, 79, 80, 81, 82, 83, 84, 85, 86, 87, 88, 89, 90, 91, 92, 93, 94, 95, 96, 97, 98, 99, 100, 101, 102, 103, 104, 105, 106, 107, 108, 109, 110, 111, 112, 113]),
  ([69, 70, 71, 72, 73, 76, 77, 78, 79, 80, 81, 82, 83, 84, 85, 86, 87, 88, 74, 75], [0, 1, 3, 4, 6, 7, 9, 10, 11, 12, 13, 14, 15, 16, 17, 18, 19, 20, 21, 22, 23, 24, 25, 26, 27, 28, 29, 30, 31, 32, 33, 34, 35, 36, 37, 38, 39, 40, 41, 42, 43, 44, 45, 46, 47, 48, 49, 50, 51, 52, 53, 54, 55, 56, 57, 58, 59, 60, 61, 62, 63, 64, 65, 66, 67, 68, 69, 70, 71, 72, 73, 74, 75, 76, 77, 78, 79, 80, 81, 82, 83, 84, 85, 86, 87, 88, 89, 90, 91, 92, 93, 94, 95, 96, 97, 98, 99, 100, 101, 102, 103, 104, 105, 106, 107, 108, 109, 110, 111, 112, 113], [0, 1, 3, 6, 7, 8, 9, 10, 11, 12, 13, 14, 15, 16, 17, 18, 19, 20, 21, 22, 23, 24, 25, 26, 27, 28, 29, 30, 31, 32, 33, 34, 35, 36, 37, 38, 39, 40, 41, 42, 43, 44, 45, 46, 47, 48, 49, 50, 51, 52, 53, 54, 55, 56, 57, 58, 59, 60, 61, 62, 63, 64, 65, 66, 67, 68, 69, 70, 71, 72, 73, 74, 75, 76, 77, 78, 79, 80, 81, 82, 83, 84, 85, 86, 87, 88, 89, 90, 91, 92, 93, 94, 95, 96, 97, 98, 99, 100, 101, 102, 103, 104, 105, 106, 107, 108, 109, 110, 111, 112, 113]),
  ([89, 90, 91, 92, 93, 96, 97, 98, 99, 100, 101, 102, 103, 104, 105, 106, 107, 108, 109, 110, 94, 95], [0, 1, 3, 4, 6, 7, 8, 9, 11, 12, 13, 14, 15, 16, 17, 18, 19, 20, 21, 22, 23, 24, 25, 26, 27, 28, 29, 30, 31, 32, 33, 34, 35, 36, 37, 38, 39, 40, 41, 42, 43, 44, 45, 46, 47, 48, 49, 50, 51, 52, 53, 54, 55, 56, 57, 58, 59, 60, 61, 62, 63, 64, 65, 66, 67, 68, 69, 70, 71, 72, 73, 74, 75, 76, 77, 78, 79, 80, 81, 82, 83, 84, 85, 86, 87, 88, 89, 90, 91, 92, 93, 94, 95, 96, 97, 98, 99, 100, 101, 102, 103, 104, 105, 106, 107, 108, 109, 110, 111, 112, 113], [0, 1, 3, 6, 7, 8, 9, 10, 11, 12, 13, 14, 15, 16, 17, 18, 19, 20, 21, 22, 23, 24, 25, 26, 27, 28, 29, 30, 31, 32, 33, 34, 35, 36, 37, 38, 39, 40, 41, 42, 43, 44, 45, 46, 47, 48, 49, 50, 51, 52, 53, 54, 55, 56, 57, 58, 59, 60, 61, 62, 63, 64, 65, 66, 67, 68, 69, 70, 71, 72, 73, 74, 75, 76, 77, 78, 79, 80, 81, 82, 83, 84, 85, 86, 87, 88, 89, 90, 91, 92, 93, 94, 95, 96, 97, 98, 99, 100, 101, 102, 103, 104, 105, 106, 107, 108, 109, 110, 111, 112, 113]),
  ([114, 115, 116, 117, 118, 121, 122, 123, 124, 125, 126, 127, 128, 129, 130, 131, 132, 133, 134, 135, 136, 137, 138, 139, 140, 141, 142, 143, 144, 145, 119, 120], [0, 1, 3, 4, 5, 6, 9, 11, 12, 13, 14, 15, 16, 17, 18, 19, 20, 21, 22, 23, 24, 25, 26, 27, 28, 29, 30, 31, 32, 33, 34, 35, 36, 37, 38, 39, 40, 41, 42, 43, 44, 45, 46, 47, 48, 49, 50, 51, 52, 53, 54, 55, 56, 57, 58, 59, 60, 61, 62, 63, 64, 65, 66, 67, 68, 69, 70, 71, 72, 73, 74, 75, 76, 77, 78, 79, 80, 81, 82, 83, 84, 85, 86, 87, 88, 89, 90, 91, 92, 93, 94, 95, 96, 97, 98, 99, 100, 101, 102, 103, 104, 105, 106, 107, 108, 109, 110, 111, 112, 113, 114, 115, 116, 117, 118, 119, 120, 121, 122, 123, 124, 125, 126, 127, 128, 129, 130, 131, 132, 133, 134, 135, 136, 137, 138, 139, 140, 141, 142, 143, 144, 145], [0, 1, 2, 3, 5, 6, 7, 8, 9, 10, 11, 12, 13, 14, 15, 16, 17, 18, 19, 20, 21, 22, 23, 24, 25, 26, 27, 28, 29, 30, 31, 32, 33, 34, 35, 36, 37, 38, 39, 40, 41, 42, 43, 44, 45, 46, 47, 48, 49, 50, 51, 52, 53, 54, 55, 56, 57, 58, 59, 60, 61, 62, 63, 64, 65, 66, 67, 68, 69, 70, 71, 72, 73, 74, 75, 76, 77, 78, 79, 80, 81, 82, 83, 84, 85, 86, 87, 88, 89, 90, 91, 92, 93, 94, 95, 96, 97, 98, 99, 100, 101, 102, 103, 104, 105, 106, 107, 108, 109, 110, 111, 112, 113, 114, 115, 116, 117, 118, 119, 120, 121, 122, 123, 124, 125, 126, 127, 128, 129, 130, 131, 132, 133, 134, 135, 136, 137, 138, 139, 140, 141, 142, 143, 144, 145]),
  ([7, 8, 9, 10, 11, 14, 15, 16, 17, 18, 19, 20, 21, 22, 23, 24, 25, 26, 27, 28, 29, 30, 31, 32, 12, 13], [0, 3, 4, 7, 8, 9, 10, 11, 12, 13, 14, 15, 16, 17, 18, 19, 20, 21, 22, 23, 24, 25, 26, 27, 28, 29, 30, 31, 32, 33], [0, 1, 2, 3, 6, 7, 8, 9, 10, 11, 12, 13, 14, 15, 16, 17, 18, 19, 20, 21, 22, 23, 24, 25, 26, 27, 28, 29, 30, 31, 32, 33]),
  ([7, 8, 9, 10, 11, 14, 15, 16, 17, 18, 19, 20, 21, 22, 23, 24, 25, 26, 27, 28, 29, 30, 31, 32, 33, 34, 35, 36, 37, 38, 39, 40, 12, 13], [0, 3, 4, 7, 8, 9, 10, 11, 12, 13, 14, 15, 16, 17, 18, 19, 20, 21, 22, 23, 24, 25, 26, 27, 28, 29, 30, 31, 32, 33, 34, 35, 36, 37, 38, 39, 40, 41], [0, 1, 2, 3, 6, 7, 8, 9, 10, 11, 12, 13, 14, 15, 16, 17, 18, 19, 20, 21, 22, 23, 24, 25, 26, 27, 28, 29, 30, 31, 32, 33, 34, 35, 36, 37, 38, 39, 40, 41]),
  ([12, 13, 14, 7, 15, 16, 17, 18, 19, 20, 21, 22, 23, 24, 25, 26, 27, 11], [0, 2, 3, 6, 7, 8, 12, 13, 14, 15, 16, 17, 18, 19, 20, 21, 22, 23, 24, 25, 26, 27, 28], [0, 1, 2, 3, 6, 7, 8, 9, 10, 11, 12, 13, 14, 15, 16, 17, 18, 19, 20, 21, 22, 23, 24, 25, 26, 27, 28]),
  ([8, 9, 10, 11, 12, 15, 16, 17, 18, 19, 20, 21, 22, 23, 24, 25, 26, 27, 28, 29, 30, 31, 32, 33, 34, 13, 14], [0, 3, 7, 8, 9, 10, 11, 12, 13, 14, 15, 16, 17, 18, 19, 20, 21, 22, 23, 24, 25, 26, 27, 28, 29, 30, 31, 32, 33, 34, 35], [0, 1, 2, 3, 6, 7, 8, 9, 10, 11, 12, 13, 14, 15, 16, 17, 18, 19, 20, 21, 22, 23, 24, 25, 26, 27, 28, 29, 30, 31, 32, 33, 34, 35]),
  ([8, 9, 10, 11, 12, 15, 16, 17, 18, 19, 7, 20, 21, 22, 23, 24, 25, 26, 27, 28, 29, 30, 31, 32, 33, 34, 35, 13, 14], [0, 1, 4, 7, 8, 9, 10, 11, 12, 13, 14, 15, 16, 17, 18, 19, 20, 21, 22, 23, 24, 25, 26, 27, 28, 29, 30, 31, 32, 33, 34, 35, 36], [0, 1, 2, 3, 6, 7, 8, 9, 10, 11, 12, 13, 14, 15, 16, 17, 18, 19, 20, 21, 22, 23, 24, 25, 26, 27, 28, 29, 30, 31, 32, 33, 34, 35, 36]),
  ([18, 19, 20, 21, 22, 23, 24, 25, 26, 27, 28, 17], [0, 2, 3, 4, 5, 6, 7, 8, 9, 10, 11, 12, 13, 14, 18, 19, 20, 21, 22, 23, 24, 25, 26, 27, 28, 29, 30, 31, 32, 33, 34, 35, 36, 37, 38, 39, 40, 41, 42, 43, 44, 45, 46, 47, 48, 49, 50, 51, 52, 53, 54, 55, 56, 57, 58, 59, 60, 61, 62, 63, 64, 65, 66], [0, 3, 4, 5, 6, 7, 8, 9, 10, 11, 12, 13, 14, 15, 16, 17, 18, 19, 20, 21, 22, 23, 24, 25, 26, 27, 28, 29, 30, 31, 32, 33, 34, 35, 36, 37, 38, 39, 40, 41, 42, 43, 44, 45, 46, 47, 48, 49, 50, 51, 52, 53, 54, 55, 56, 57, 58, 59, 60, 61, 62, 63, 64, 65, 66]),
  ([33, 34, 35, 36, 7, 37, 38, 39, 40, 41, 42, 43, 44, 45, 46, 32], [0, 2, 3, 4, 5, 6, 7, 8, 9, 10, 11, 12, 13, 14, 15, 16, 17, 18, 19, 20, 21, 22, 23, 24, 25, 26, 27, 28, 29, 33, 34, 35, 36, 37, 38, 39, 40, 41, 42, 43, 44, 45, 46, 47, 48, 49, 50, 51, 52, 53, 54, 55, 56, 57, 58, 59, 60, 61, 62, 63, 64, 65, 66], [0, 3, 4, 5, 6, 7, 8, 9, 10, 11, 12, 13, 14, 15, 16, 17, 18, 19, 20, 21, 22, 23, 24, 25, 26, 27, 28, 29, 30, 31, 32, 33, 34, 35, 36, 37, 38, 39, 40, 41, 42, 43, 44, 45, 46, 47, 48, 49, 50, 51, 52, 53, 54, 55, 56, 57, 58, 59, 60, 61, 62, 63, 64, 65, 66]),
  ([51, 52, 53, 54, 10, 55, 56, 57, 58, 59, 60, 61, 62, 63, 64, 65, 66, 50], [0, 2, 3, 4, 5, 6, 7, 8, 9, 10, 11, 12, 13, 14, 15, 16, 17, 18, 19, 20, 21, 22, 23, 24, 25, 26, 27, 28, 29, 30, 31, 32, 33, 34, 35, 36, 37, 38, 39, 40, 41, 42, 43, 44, 45, 46, 47, 51, 52, 53, 54, 55, 56, 57, 58, 59, 60, 61, 62, 63, 64, 65, 66], [0, 1, 3, 4, 5, 6, 7, 8, 9, 10, 11, 12, 13, 14, 15, 16, 17, 18, 19, 20, 21, 22, 23, 24, 25, 26, 27, 28, 29, 30, 31, 32, 33, 34, 35, 36, 37, 38, 39, 40, 41, 42, 43, 44, 45, 46, 47, 48, 49, 50, 51, 52, 53, 54, 55, 56, 57, 58, 59, 60, 61, 62, 63, 64, 65, 66]),
  ([6, 7, 8, 9, 12, 13, 14, 15, 16, 17, 18, 19, 10, 11], [2, 3, 4, 6, 7, 8, 9, 10, 11, 12, 13, 14, 15, 16, 17, 18, 19], [0, 1, 2, 3, 5, 6, 7, 8, 9, 10, 11, 12, 13, 14, 15, 16, 17, 18, 19]),
  ([31, 32, 33, 8, 34, 35, 36, 37, 38, 39, 40, 41, 42, 30], [0, 1, 3, 4, 6, 7, 8, 9, 10, 11, 12, 13, 14, 15, 16, 17, 18, 19, 20, 21, 22, 23, 24, 25, 26, 27, 31, 32, 33, 34, 35, 36, 37, 38, 39, 40, 41, 42], [0, 1, 2, 3, 5, 6, 7, 8, 9, 10, 11, 12, 13, 14, 15, 16, 17, 18, 19, 20, 21, 22, 23, 24, 25, 26, 27, 28, 29, 30, 31, 32, 33, 34, 35, 36, 37, 38, 39, 40, 41, 42]),
  ([7, 8, 11, 12, 13, 14, 15, 16, 17, 9, 10], [1, 2, 5, 6, 7, 8, 9, 10, 11, 12, 13, 14, 15, 16, 17, 18, 19, 20, 21, 22, 23, 24, 25], [1, 4, 5, 6, 7, 8, 9, 10, 11, 12, 13, 14, 15, 16, 17, 18, 19, 20, 21, 22, 23, 24, 25]),
  ([6, 7, 8, 9, 12, 13, 14, 15, 16, 5, 17, 18, 19, 20, 10, 11], [1, 2, 5, 6, 7, 8, 9, 10, 11, 12, 13, 14, 15, 16, 17, 18, 19, 20, 21], [0, 1, 4, 5, 6, 7, 8, 9, 10, 11, 12, 13, 14, 15, 16, 17, 18, 19, 20, 21]),
  ([11, 12, 13, 7, 14, 15, 16, 17, 18, 19, 10], [0, 2, 3, 4, 6, 7, 11, 12, 13, 14, 15, 16, 17, 18, 19, 20], [0, 1, 2, 3, 6, 7, 8, 9, 10, 11, 12, 13, 14, 15, 16, 17, 18, 19, 20]),
  ([6, 7, 8, 9, 12, 13, 14, 15, 16, 17, 18, 10, 11], [2, 6, 7, 8, 9, 10, 11, 12, 13, 14, 15, 16, 17, 18], [0, 1, 5, 6, 7, 8, 9, 10, 11, 12, 13, 14, 15, 16, 17, 18]),
  ([11, 12, 13, 14, 17, 18, 19, 20, 21, 22, 23, 24, 25, 26, 15, 16], [2, 3, 4, 6, 7, 8, 9, 10, 11, 12, 13, 14, 15, 16, 17, 18, 19, 20, 21, 22, 23, 24, 25, 26], [0, 1, 2, 3, 5, 6, 7, 8, 9, 10, 11, 12, 13, 14, 15, 16, 17, 18, 19, 20, 21, 22, 23, 24, 25, 26]),
  ([18, 19, 22, 23, 24, 25, 26, 27, 28, 29, 30, 31, 32, 33, 34, 35, 36, 37, 38, 20, 21], [1, 2, 6, 7, 8, 9, 10, 11, 12, 13, 14, 15, 16, 17, 18, 19, 20, 21, 22, 23, 24, 25, 26, 27, 28, 29, 30, 31, 32, 33, 34, 35, 36, 37, 38, 39], [1, 2, 3, 5, 6, 7, 8, 9, 10, 11, 12, 13, 14, 15, 16, 17, 18, 19, 20, 21, 22, 23, 24, 25, 26, 27, 28, 29, 30, 31, 32, 33, 34, 35, 36, 37, 38, 39]),
  ([10, 11, 12, 13, 5, 14, 15, 16, 17, 18, 19, 20, 21, 22, 23, 24, 25, 9], [0, 1, 2, 4, 5, 6, 10, 11, 12, 13, 14, 15, 16, 17, 18, 19, 20, 21, 22, 23, 24, 25], [0, 1, 3, 4, 5, 6, 7, 8, 9, 10, 11, 12, 13, 14, 15, 16, 17, 18, 19, 20, 21, 22, 23, 24, 25]),
  ([5, 6, 7, 8, 11, 12, 13, 14, 15, 16, 17, 9, 10], [1, 2, 5, 6, 7, 8, 9, 10, 11, 12, 13, 14, 15, 16, 17, 18], [0, 1, 4, 5, 6, 7, 8, 9, 10, 11, 12, 13, 14, 15, 16, 17, 18]),
  ([13, 14, 15, 7, 16, 17, 18, 19, 20, 21, 9, 22, 23, 24, 25, 26, 27, 28, 29, 18, 30, 12], [0, 2, 3, 4, 6, 7, 8, 9, 13, 14, 15, 16, 17, 18, 19, 20, 21, 22, 23, 24, 25, 26, 27, 28, 29, 30, 31], [0, 1, 2, 3, 6, 7, 8, 9, 10, 11, 12, 13, 14, 15, 16, 17, 18, 19, 20, 21, 22, 23, 24, 25, 26, 27, 28, 29, 30, 31]),
  ([19, 20, 21, 9, 22, 23, 24, 25, 26, 27, 28, 29, 18], [0, 2, 3, 4, 6, 8, 9, 13, 14, 15, 19, 20, 21, 22, 23, 24, 25, 26, 27, 28, 29, 30, 31], [0, 2, 3, 6, 7, 8, 9, 13, 14, 15, 16, 17, 18, 19, 20, 21, 22, 23, 24, 25, 26, 27, 28, 29, 30, 31]),
  ([6, 7, 8, 9, 12, 13, 14, 15, 16, 17, 10, 11], [1, 2, 4, 6, 7, 8, 9, 10, 11, 12, 13, 14, 15, 16, 17], [0, 1, 2, 3, 5, 6, 7, 8, 9, 10, 11, 12, 13, 14, 15, 16, 17]),
  ([9, 10, 11, 12, 13, 14, 15, 16, 17, 18, 8], [2, 3, 4, 5, 6, 9, 10, 11, 12, 13, 14, 15, 16, 17, 18], [0, 1, 2, 3, 5, 6, 7, 8, 9, 10, 11, 12, 13, 14, 15, 16, 17, 18]),
  ([8, 9, 10, 4, 11, 12, 13, 14, 15, 7], [1, 2, 3, 4, 8, 9, 10, 11, 12, 13, 14, 15], [0, 1, 2, 3, 4, 5, 6, 7, 8, 9, 10, 11, 12, 13, 14, 15]),
  ([19, 20, 23, 24, 25, 26, 27, 21, 22], [0, 1, 2, 4, 6, 7, 8, 9, 10, 11, 12, 13, 14, 15, 16, 17, 18, 19, 20, 21, 22, 23, 24, 25, 26, 27, 28], [0, 1, 4, 5, 6, 7, 8, 9, 10, 11, 12, 13, 14, 15, 16, 17, 18, 19, 20, 21, 22, 23, 24, 25, 26, 27, 28]),
  ([11, 12, 13, 14, 17, 18, 19, 20, 21, 22, 23, 24, 25, 15, 16], [2, 3, 4, 6, 7, 8, 9, 10, 11, 12, 13, 14, 15, 16, 17, 18, 19, 20, 21, 22, 23, 24, 25], [0, 1, 2, 3, 5, 6, 7, 8, 9, 10, 11, 12, 13, 14, 15, 16, 17, 18, 19, 20, 21, 22, 23, 24, 25]),
  ([13, 14, 15, 16, 19, 20, 21, 22, 23, 6, 24, 25, 26, 27, 28, 29, 30, 31, 32, 33, 34, 35, 36, 37, 17, 18], [2, 3, 4, 6, 7, 8, 9, 10, 11, 12, 13, 14, 15, 16, 17, 18, 19, 20, 21, 22, 23, 24, 25, 26, 27, 28, 29, 30, 31, 32, 33, 34, 35, 36, 37], [0, 1, 2, 3, 5, 6, 7, 8, 9, 10, 11, 12, 13, 14, 15, 16, 17, 18, 19, 20, 21, 22, 23, 24, 25, 26, 27, 28, 29, 30, 31, 32, 33, 34, 35, 36, 37])]
/-- The sizes of the elements of slices within a type's cells. -/
def zz : Nat → List Nat
  | 22 => [32]
  | 24 => [32, 32, 32, 32]
  | 31 => [2]
  | 34 => [0, 0, 0, 0, 2, 0, 0, 0, 0, 0, 0, 0, 0, 0, 0, 0, 0, 0, 0, 0, 0, 0, 0, 0, 0, 0, 0, 2, 0, 0, 0, 0]
  | 60 => [1]
  | 71 => [2]
  | 83 => [1]
  | _ => []
/-- The table, with summaries of functions. -/
noncomputable def ctx (m : Nat → Option (List AV → Option (AV × List Blk))) : Ctx := ⟨td, conc, eqs, fns, zz, kl, m⟩
theorem ctx_ok {G : World → Prop} (m : Nat → Option (List AV → Option (AV × List Blk))) (hm : ∀ n f, m n = some f → Models Try.prog G n f ∧ ∃ fn, Try.prog.funcs[n]? = some fn ∧ fn.body.isSome = true ∧ (fn.name == "runtime.NumGoroutine") = false) : CtxOk Try.prog (ctx m) G :=
  ⟨TdOk.of tds concs, hm, eqss, fnss⟩
end Go.Proofs.Ytcchccdbkpidpaa.AvT
