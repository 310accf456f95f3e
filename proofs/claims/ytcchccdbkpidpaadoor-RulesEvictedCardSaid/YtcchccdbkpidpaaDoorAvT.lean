/- The table of types and functions of this program, for the interpreter over plain values; written by a program, proved by Lean. -/
import Derived.Test.YtcchccdbkpidpaaDoorProg
import Derived.Test.YtcchccdbkpidpaaDoorChecked
import Derived.Test.YtcchccdbkpidpaaDoorAvM
set_option maxRecDepth 100000
set_option linter.unusedVariables false
namespace Go.Proofs.YtcchccdbkpidpaaDoor.AvT
open Go Go.RowKit Go.Proofs.YtcchccdbkpidpaaDoor.Av

/-- What a type is. -/
def td : Nat → TD
  | 1 => .one (.nilFunc)
  | 2 => .one (.int .i64 0)
  | 3 => .one (.int .i64 0)
  | 4 => .one (.bool false)
  | 5 => .one (.int .u8 0)
  | 9 => .one (.string ⟨#[]⟩)
  | 20 => .one (.nilIface)
  | 22 => .sl 30 32 312
  | 24 => .agg 4 [(0, 1, false), (1, 1, false), (2, 1, false), (3, 1, false)] [.slice none 0 0, .slice none 0 0, .slice none 0 0, .slice none 0 0]
  | 25 => .sl 98 2 32
  | 27 => .agg 2 [(0, 1, false), (1, 1, false)] [.int .i64 0, .int .i64 0]
  | 28 => .one (.int .u64 0)
  | 30 => .agg 32 [(0, 1, false), (1, 1, false), (2, 1, false), (3, 1, false), (4, 1, false), (5, 2, true), (7, 1, false), (8, 1, false), (9, 1, false), (10, 1, false), (11, 1, false), (12, 1, false), (13, 1, false), (14, 1, false), (15, 1, false), (16, 1, false), (17, 2, true), (19, 1, false), (20, 1, false), (21, 1, false), (22, 1, false), (23, 1, false), (24, 1, false), (25, 1, false), (26, 1, false), (27, 1, false), (28, 1, false), (29, 1, false), (30, 1, false), (31, 1, false)] [.int .i64 0, .string ⟨#[]⟩, .int .i64 0, .int .i64 0, .slice none 0 0, .int .i64 0, .int .i64 0, .bool false, .bool false, .bool false, .int .i64 0, .string ⟨#[]⟩, .string ⟨#[]⟩, .string ⟨#[]⟩, .int .i64 0, .bool false, .bool false, .int .i64 0, .int .i64 0, .string ⟨#[]⟩, .int .i64 0, .int .i64 0, .int .i64 0, .int .i64 0, .int .i64 0, .bool false, .int .u64 0, .slice none 0 0, .int .i64 0, .string ⟨#[]⟩, .int .i64 0, .int .i64 0]
  | 36 => .one (.nilIface)
  | 41 => .one (.nilFunc)
  | 54 => .one (.int .i64 0)
  | 56 => .agg 2 [(0, 1, false), (1, 1, false)] [.int .i64 0, .int .i64 0]
  | 59 => .one (.pointer none)
  | 72 => .sl 22 1 24
  | 74 => .sl 77 2 16
  | 77 => .agg 2 [(0, 1, false), (1, 1, false)] [.int .i64 0, .nilFunc]
  | 85 => .one (.nilIface)
  | 93 => .one (.nilFunc)
  | 94 => .one (.map none)
  | 98 => .agg 2 [(0, 1, false), (1, 1, false)] [.string ⟨#[]⟩, .string ⟨#[]⟩]
  | 116 => .one (.nilFunc)
  | 122 => .one (.nilFunc)
  | 124 => .sl 5 1 1
  | 154 => .one (.pointer none)
  | _ => .no

theorem info1 : (Tryd.prog.info? 1).map (fun i => (i.zero, i.size, i.bytes)) = some (some (.nilFunc), 1, 8) := by kernel_rfl
theorem info2 : (Tryd.prog.info? 2).map (fun i => (i.zero, i.size, i.bytes)) = some (some (.int .i64 0), 1, 8) := by kernel_rfl
theorem info3 : (Tryd.prog.info? 3).map (fun i => (i.zero, i.size, i.bytes)) = some (some (.int .i64 0), 1, 8) := by kernel_rfl
theorem info4 : (Tryd.prog.info? 4).map (fun i => (i.zero, i.size, i.bytes)) = some (some (.bool false), 1, 1) := by kernel_rfl
theorem info5 : (Tryd.prog.info? 5).map (fun i => (i.zero, i.size, i.bytes)) = some (some (.int .u8 0), 1, 1) := by kernel_rfl
theorem info9 : (Tryd.prog.info? 9).map (fun i => (i.zero, i.size, i.bytes)) = some (some (.string ⟨#[]⟩), 1, 16) := by kernel_rfl
theorem info20 : (Tryd.prog.info? 20).map (fun i => (i.zero, i.size, i.bytes)) = some (some (.nilIface), 1, 16) := by kernel_rfl
theorem info22 : (Tryd.prog.info? 22).map (fun i => (i.zero, i.size, i.bytes)) = some (some (.slice none 0 0), 1, 24) := by kernel_rfl
theorem info24 : (Tryd.prog.info? 24).map (fun i => (i.zero, i.size, i.bytes)) = some (some (.agg #[.slice none 0 0, .slice none 0 0, .slice none 0 0, .slice none 0 0]), 4, 96) := by kernel_rfl
theorem info25 : (Tryd.prog.info? 25).map (fun i => (i.zero, i.size, i.bytes)) = some (some (.slice none 0 0), 1, 24) := by kernel_rfl
theorem info27 : (Tryd.prog.info? 27).map (fun i => (i.zero, i.size, i.bytes)) = some (some (.agg #[.int .i64 0, .int .i64 0]), 2, 16) := by kernel_rfl
theorem info28 : (Tryd.prog.info? 28).map (fun i => (i.zero, i.size, i.bytes)) = some (some (.int .u64 0), 1, 8) := by kernel_rfl
theorem info30 : (Tryd.prog.info? 30).map (fun i => (i.zero, i.size, i.bytes)) = some (some (.agg #[.int .i64 0, .string ⟨#[]⟩, .int .i64 0, .int .i64 0, .slice none 0 0, .int .i64 0, .int .i64 0, .bool false, .bool false, .bool false, .int .i64 0, .string ⟨#[]⟩, .string ⟨#[]⟩, .string ⟨#[]⟩, .int .i64 0, .bool false, .bool false, .int .i64 0, .int .i64 0, .string ⟨#[]⟩, .int .i64 0, .int .i64 0, .int .i64 0, .int .i64 0, .int .i64 0, .bool false, .int .u64 0, .slice none 0 0, .int .i64 0, .string ⟨#[]⟩, .int .i64 0, .int .i64 0]), 32, 312) := by kernel_rfl
theorem info36 : (Tryd.prog.info? 36).map (fun i => (i.zero, i.size, i.bytes)) = some (some (.nilIface), 1, 16) := by kernel_rfl
theorem info41 : (Tryd.prog.info? 41).map (fun i => (i.zero, i.size, i.bytes)) = some (some (.nilFunc), 1, 8) := by kernel_rfl
theorem info54 : (Tryd.prog.info? 54).map (fun i => (i.zero, i.size, i.bytes)) = some (some (.int .i64 0), 1, 8) := by kernel_rfl
theorem info56 : (Tryd.prog.info? 56).map (fun i => (i.zero, i.size, i.bytes)) = some (some (.agg #[.int .i64 0, .int .i64 0]), 2, 16) := by kernel_rfl
theorem info59 : (Tryd.prog.info? 59).map (fun i => (i.zero, i.size, i.bytes)) = some (some (.pointer none), 1, 8) := by kernel_rfl
theorem info72 : (Tryd.prog.info? 72).map (fun i => (i.zero, i.size, i.bytes)) = some (some (.slice none 0 0), 1, 24) := by kernel_rfl
theorem info74 : (Tryd.prog.info? 74).map (fun i => (i.zero, i.size, i.bytes)) = some (some (.slice none 0 0), 1, 24) := by kernel_rfl
theorem info77 : (Tryd.prog.info? 77).map (fun i => (i.zero, i.size, i.bytes)) = some (some (.agg #[.int .i64 0, .nilFunc]), 2, 16) := by kernel_rfl
theorem info85 : (Tryd.prog.info? 85).map (fun i => (i.zero, i.size, i.bytes)) = some (some (.nilIface), 1, 16) := by kernel_rfl
theorem info93 : (Tryd.prog.info? 93).map (fun i => (i.zero, i.size, i.bytes)) = some (some (.nilFunc), 1, 8) := by kernel_rfl
theorem info94 : (Tryd.prog.info? 94).map (fun i => (i.zero, i.size, i.bytes)) = some (some (.map none), 1, 8) := by kernel_rfl
theorem info98 : (Tryd.prog.info? 98).map (fun i => (i.zero, i.size, i.bytes)) = some (some (.agg #[.string ⟨#[]⟩, .string ⟨#[]⟩]), 2, 32) := by kernel_rfl
theorem info116 : (Tryd.prog.info? 116).map (fun i => (i.zero, i.size, i.bytes)) = some (some (.nilFunc), 1, 8) := by kernel_rfl
theorem info122 : (Tryd.prog.info? 122).map (fun i => (i.zero, i.size, i.bytes)) = some (some (.nilFunc), 1, 8) := by kernel_rfl
theorem info124 : (Tryd.prog.info? 124).map (fun i => (i.zero, i.size, i.bytes)) = some (some (.slice none 0 0), 1, 24) := by kernel_rfl
theorem info154 : (Tryd.prog.info? 154).map (fun i => (i.zero, i.size, i.bytes)) = some (some (.pointer none), 1, 8) := by kernel_rfl

theorem ok1 : TdT Tryd.prog 1 (td 1) := by
  obtain ⟨i, hi, hz, hs, hb⟩ := info_of info1
  exact ⟨⟨_, Tryd.underlying1, rfl, ⟨_, _, _, rfl⟩⟩, i, hi, hs, hz, rfl, rfl⟩
theorem ok2 : TdT Tryd.prog 2 (td 2) := by
  obtain ⟨i, hi, hz, hs, hb⟩ := info_of info2
  exact ⟨⟨_, Tryd.underlying2, rfl, rfl⟩, i, hi, hs, hz, rfl, rfl⟩
theorem ok3 : TdT Tryd.prog 3 (td 3) := by
  obtain ⟨i, hi, hz, hs, hb⟩ := info_of info3
  exact ⟨⟨_, Tryd.underlying3, rfl, rfl⟩, i, hi, hs, hz, rfl, rfl⟩
theorem ok4 : TdT Tryd.prog 4 (td 4) := by
  obtain ⟨i, hi, hz, hs, hb⟩ := info_of info4
  exact ⟨⟨_, Tryd.underlying4, rfl, rfl⟩, i, hi, hs, hz, rfl, rfl⟩
theorem ok5 : TdT Tryd.prog 5 (td 5) := by
  obtain ⟨i, hi, hz, hs, hb⟩ := info_of info5
  exact ⟨⟨_, Tryd.underlying5, rfl, rfl⟩, i, hi, hs, hz, rfl, rfl⟩
theorem ok9 : TdT Tryd.prog 9 (td 9) := by
  obtain ⟨i, hi, hz, hs, hb⟩ := info_of info9
  exact ⟨⟨_, Tryd.underlying9, rfl, rfl⟩, i, hi, hs, hz, rfl, rfl⟩
theorem ok20 : TdT Tryd.prog 20 (td 20) := by
  obtain ⟨i, hi, hz, hs, hb⟩ := info_of info20
  exact ⟨⟨_, Tryd.underlying20, rfl, ⟨_, rfl⟩⟩, i, hi, hs, hz, rfl, rfl⟩
theorem ok22 : TdT Tryd.prog 22 (td 22) := by
  obtain ⟨i, hi, hz, hs, hb⟩ := info_of info22
  obtain ⟨j, hj, hjz, hjs, hjb⟩ := info_of info30
  exact ⟨Tryd.underlying22, by decide, ⟨j, _, hj, hjs, hjb, hjz, rfl⟩, i, hi, hs, hz⟩
theorem ok24 : TdT Tryd.prog 24 (td 24) := by
  obtain ⟨i, hi, hz, hs, hb⟩ := info_of info24
  refine ⟨_, i, Tryd.underlying24, hi, hs, hz, rfl, by decide, by simp [Value.oneCell'], rfl, ?_⟩
  intro j f o s g hf hg
  cases j with
  | zero =>
    simp at hf hg
    obtain ⟨rfl, rfl, rfl⟩ := hg
    subst hf
    obtain ⟨j', hj, _, hjs, _⟩ := info_of info22
    exact ⟨rfl, by decide, by decide, ⟨j', hj, hjs⟩, _, Tryd.underlying22, rfl, by decide⟩
  | succ j =>
    cases j with
    | zero =>
      simp at hf hg
      obtain ⟨rfl, rfl, rfl⟩ := hg
      subst hf
      obtain ⟨j', hj, _, hjs, _⟩ := info_of info22
      exact ⟨rfl, by decide, by decide, ⟨j', hj, hjs⟩, _, Tryd.underlying22, rfl, by decide⟩
    | succ j =>
      cases j with
      | zero =>
        simp at hf hg
        obtain ⟨rfl, rfl, rfl⟩ := hg
        subst hf
        obtain ⟨j', hj, _, hjs, _⟩ := info_of info22
        exact ⟨rfl, by decide, by decide, ⟨j', hj, hjs⟩, _, Tryd.underlying22, rfl, by decide⟩
      | succ j =>
        cases j with
        | zero =>
          simp at hf hg
          obtain ⟨rfl, rfl, rfl⟩ := hg
          subst hf
          obtain ⟨j', hj, _, hjs, _⟩ := info_of info22
          exact ⟨rfl, by decide, by decide, ⟨j', hj, hjs⟩, _, Tryd.underlying22, rfl, by decide⟩
        | succ j =>
          simp at hg
theorem ok25 : TdT Tryd.prog 25 (td 25) := by
  obtain ⟨i, hi, hz, hs, hb⟩ := info_of info25
  obtain ⟨j, hj, hjz, hjs, hjb⟩ := info_of info98
  exact ⟨Tryd.underlying25, by decide, ⟨j, _, hj, hjs, hjb, hjz, rfl⟩, i, hi, hs, hz⟩
theorem ok27 : TdT Tryd.prog 27 (td 27) := by
  obtain ⟨i, hi, hz, hs, hb⟩ := info_of info27
  refine ⟨_, i, Tryd.underlying27, hi, hs, hz, rfl, by decide, by simp [Value.oneCell'], rfl, ?_⟩
  intro j f o s g hf hg
  cases j with
  | zero =>
    simp at hf hg
    obtain ⟨rfl, rfl, rfl⟩ := hg
    subst hf
    obtain ⟨j', hj, _, hjs, _⟩ := info_of info3
    exact ⟨rfl, by decide, by decide, ⟨j', hj, hjs⟩, _, Tryd.underlying3, rfl, by decide⟩
  | succ j =>
    cases j with
    | zero =>
      simp at hf hg
      obtain ⟨rfl, rfl, rfl⟩ := hg
      subst hf
      obtain ⟨j', hj, _, hjs, _⟩ := info_of info3
      exact ⟨rfl, by decide, by decide, ⟨j', hj, hjs⟩, _, Tryd.underlying3, rfl, by decide⟩
    | succ j =>
      simp at hg
theorem ok28 : TdT Tryd.prog 28 (td 28) := by
  obtain ⟨i, hi, hz, hs, hb⟩ := info_of info28
  exact ⟨⟨_, Tryd.underlying28, rfl, rfl⟩, i, hi, hs, hz, rfl, rfl⟩
theorem ok30 : TdT Tryd.prog 30 (td 30) := by
  obtain ⟨i, hi, hz, hs, hb⟩ := info_of info30
  refine ⟨_, i, Tryd.underlying30, hi, hs, hz, rfl, by decide, by simp [Value.oneCell'], rfl, ?_⟩
  intro j f o s g hf hg
  cases j with
  | zero =>
    simp at hf hg
    obtain ⟨rfl, rfl, rfl⟩ := hg
    subst hf
    obtain ⟨j', hj, _, hjs, _⟩ := info_of info3
    exact ⟨rfl, by decide, by decide, ⟨j', hj, hjs⟩, _, Tryd.underlying3, rfl, by decide⟩
  | succ j =>
    cases j with
    | zero =>
      simp at hf hg
      obtain ⟨rfl, rfl, rfl⟩ := hg
      subst hf
      obtain ⟨j', hj, _, hjs, _⟩ := info_of info9
      exact ⟨rfl, by decide, by decide, ⟨j', hj, hjs⟩, _, Tryd.underlying9, rfl, by decide⟩
    | succ j =>
      cases j with
      | zero =>
        simp at hf hg
        obtain ⟨rfl, rfl, rfl⟩ := hg
        subst hf
        obtain ⟨j', hj, _, hjs, _⟩ := info_of info3
        exact ⟨rfl, by decide, by decide, ⟨j', hj, hjs⟩, _, Tryd.underlying3, rfl, by decide⟩
      | succ j =>
        cases j with
        | zero =>
          simp at hf hg
          obtain ⟨rfl, rfl, rfl⟩ := hg
          subst hf
          obtain ⟨j', hj, _, hjs, _⟩ := info_of info3
          exact ⟨rfl, by decide, by decide, ⟨j', hj, hjs⟩, _, Tryd.underlying3, rfl, by decide⟩
        | succ j =>
          cases j with
          | zero =>
            simp at hf hg
            obtain ⟨rfl, rfl, rfl⟩ := hg
            subst hf
            obtain ⟨j', hj, _, hjs, _⟩ := info_of info25
            exact ⟨rfl, by decide, by decide, ⟨j', hj, hjs⟩, _, Tryd.underlying25, rfl, by decide⟩
          | succ j =>
            cases j with
            | zero =>
              simp at hf hg
              obtain ⟨rfl, rfl, rfl⟩ := hg
              subst hf
              obtain ⟨j', hj, _, hjs, _⟩ := info_of info27
              exact ⟨rfl, by decide, by decide, ⟨j', hj, hjs⟩, _, Tryd.underlying27, rfl, by decide⟩
            | succ j =>
              cases j with
              | zero =>
                simp at hf hg
                obtain ⟨rfl, rfl, rfl⟩ := hg
                subst hf
                obtain ⟨j', hj, _, hjs, _⟩ := info_of info4
                exact ⟨rfl, by decide, by decide, ⟨j', hj, hjs⟩, _, Tryd.underlying4, rfl, by decide⟩
              | succ j =>
                cases j with
                | zero =>
                  simp at hf hg
                  obtain ⟨rfl, rfl, rfl⟩ := hg
                  subst hf
                  obtain ⟨j', hj, _, hjs, _⟩ := info_of info4
                  exact ⟨rfl, by decide, by decide, ⟨j', hj, hjs⟩, _, Tryd.underlying4, rfl, by decide⟩
                | succ j =>
                  cases j with
                  | zero =>
                    simp at hf hg
                    obtain ⟨rfl, rfl, rfl⟩ := hg
                    subst hf
                    obtain ⟨j', hj, _, hjs, _⟩ := info_of info4
                    exact ⟨rfl, by decide, by decide, ⟨j', hj, hjs⟩, _, Tryd.underlying4, rfl, by decide⟩
                  | succ j =>
                    cases j with
                    | zero =>
                      simp at hf hg
                      obtain ⟨rfl, rfl, rfl⟩ := hg
                      subst hf
                      obtain ⟨j', hj, _, hjs, _⟩ := info_of info3
                      exact ⟨rfl, by decide, by decide, ⟨j', hj, hjs⟩, _, Tryd.underlying3, rfl, by decide⟩
                    | succ j =>
                      cases j with
                      | zero =>
                        simp at hf hg
                        obtain ⟨rfl, rfl, rfl⟩ := hg
                        subst hf
                        obtain ⟨j', hj, _, hjs, _⟩ := info_of info9
                        exact ⟨rfl, by decide, by decide, ⟨j', hj, hjs⟩, _, Tryd.underlying9, rfl, by decide⟩
                      | succ j =>
                        cases j with
                        | zero =>
                          simp at hf hg
                          obtain ⟨rfl, rfl, rfl⟩ := hg
                          subst hf
                          obtain ⟨j', hj, _, hjs, _⟩ := info_of info9
                          exact ⟨rfl, by decide, by decide, ⟨j', hj, hjs⟩, _, Tryd.underlying9, rfl, by decide⟩
                        | succ j =>
                          cases j with
                          | zero =>
                            simp at hf hg
                            obtain ⟨rfl, rfl, rfl⟩ := hg
                            subst hf
                            obtain ⟨j', hj, _, hjs, _⟩ := info_of info9
                            exact ⟨rfl, by decide, by decide, ⟨j', hj, hjs⟩, _, Tryd.underlying9, rfl, by decide⟩
                          | succ j =>
                            cases j with
                            | zero =>
                              simp at hf hg
                              obtain ⟨rfl, rfl, rfl⟩ := hg
                              subst hf
                              obtain ⟨j', hj, _, hjs, _⟩ := info_of info3
                              exact ⟨rfl, by decide, by decide, ⟨j', hj, hjs⟩, _, Tryd.underlying3, rfl, by decide⟩
                            | succ j =>
                              cases j with
                              | zero =>
                                simp at hf hg
                                obtain ⟨rfl, rfl, rfl⟩ := hg
                                subst hf
                                obtain ⟨j', hj, _, hjs, _⟩ := info_of info4
                                exact ⟨rfl, by decide, by decide, ⟨j', hj, hjs⟩, _, Tryd.underlying4, rfl, by decide⟩
                              | succ j =>
                                cases j with
                                | zero =>
                                  simp at hf hg
                                  obtain ⟨rfl, rfl, rfl⟩ := hg
                                  subst hf
                                  obtain ⟨j', hj, _, hjs, _⟩ := info_of info4
                                  exact ⟨rfl, by decide, by decide, ⟨j', hj, hjs⟩, _, Tryd.underlying4, rfl, by decide⟩
                                | succ j =>
                                  cases j with
                                  | zero =>
                                    simp at hf hg
                                    obtain ⟨rfl, rfl, rfl⟩ := hg
                                    subst hf
                                    obtain ⟨j', hj, _, hjs, _⟩ := info_of info27
                                    exact ⟨rfl, by decide, by decide, ⟨j', hj, hjs⟩, _, Tryd.underlying27, rfl, by decide⟩
                                  | succ j =>
                                    cases j with
                                    | zero =>
                                      simp at hf hg
                                      obtain ⟨rfl, rfl, rfl⟩ := hg
                                      subst hf
                                      obtain ⟨j', hj, _, hjs, _⟩ := info_of info9
                                      exact ⟨rfl, by decide, by decide, ⟨j', hj, hjs⟩, _, Tryd.underlying9, rfl, by decide⟩
                                    | succ j =>
                                      cases j with
                                      | zero =>
                                        simp at hf hg
                                        obtain ⟨rfl, rfl, rfl⟩ := hg
                                        subst hf
                                        obtain ⟨j', hj, _, hjs, _⟩ := info_of info3
                                        exact ⟨rfl, by decide, by decide, ⟨j', hj, hjs⟩, _, Tryd.underlying3, rfl, by decide⟩
                                      | succ j =>
                                        cases j with
                                        | zero =>
                                          simp at hf hg
                                          obtain ⟨rfl, rfl, rfl⟩ := hg
                                          subst hf
                                          obtain ⟨j', hj, _, hjs, _⟩ := info_of info3
                                          exact ⟨rfl, by decide, by decide, ⟨j', hj, hjs⟩, _, Tryd.underlying3, rfl, by decide⟩
                                        | succ j =>
                                          cases j with
                                          | zero =>
                                            simp at hf hg
                                            obtain ⟨rfl, rfl, rfl⟩ := hg
                                            subst hf
                                            obtain ⟨j', hj, _, hjs, _⟩ := info_of info3
                                            exact ⟨rfl, by decide, by decide, ⟨j', hj, hjs⟩, _, Tryd.underlying3, rfl, by decide⟩
                                          | succ j =>
                                            cases j with
                                            | zero =>
                                              simp at hf hg
                                              obtain ⟨rfl, rfl, rfl⟩ := hg
                                              subst hf
                                              obtain ⟨j', hj, _, hjs, _⟩ := info_of info3
                                              exact ⟨rfl, by decide, by decide, ⟨j', hj, hjs⟩, _, Tryd.underlying3, rfl, by decide⟩
                                            | succ j =>
                                              cases j with
                                              | zero =>
                                                simp at hf hg
                                                obtain ⟨rfl, rfl, rfl⟩ := hg
                                                subst hf
                                                obtain ⟨j', hj, _, hjs, _⟩ := info_of info3
                                                exact ⟨rfl, by decide, by decide, ⟨j', hj, hjs⟩, _, Tryd.underlying3, rfl, by decide⟩
                                              | succ j =>
                                                cases j with
                                                | zero =>
                                                  simp at hf hg
                                                  obtain ⟨rfl, rfl, rfl⟩ := hg
                                                  subst hf
                                                  obtain ⟨j', hj, _, hjs, _⟩ := info_of info4
                                                  exact ⟨rfl, by decide, by decide, ⟨j', hj, hjs⟩, _, Tryd.underlying4, rfl, by decide⟩
                                                | succ j =>
                                                  cases j with
                                                  | zero =>
                                                    simp at hf hg
                                                    obtain ⟨rfl, rfl, rfl⟩ := hg
                                                    subst hf
                                                    obtain ⟨j', hj, _, hjs, _⟩ := info_of info28
                                                    exact ⟨rfl, by decide, by decide, ⟨j', hj, hjs⟩, _, Tryd.underlying28, rfl, by decide⟩
                                                  | succ j =>
                                                    cases j with
                                                    | zero =>
                                                      simp at hf hg
                                                      obtain ⟨rfl, rfl, rfl⟩ := hg
                                                      subst hf
                                                      obtain ⟨j', hj, _, hjs, _⟩ := info_of info25
                                                      exact ⟨rfl, by decide, by decide, ⟨j', hj, hjs⟩, _, Tryd.underlying25, rfl, by decide⟩
                                                    | succ j =>
                                                      cases j with
                                                      | zero =>
                                                        simp at hf hg
                                                        obtain ⟨rfl, rfl, rfl⟩ := hg
                                                        subst hf
                                                        obtain ⟨j', hj, _, hjs, _⟩ := info_of info3
                                                        exact ⟨rfl, by decide, by decide, ⟨j', hj, hjs⟩, _, Tryd.underlying3, rfl, by decide⟩
                                                      | succ j =>
                                                        cases j with
                                                        | zero =>
                                                          simp at hf hg
                                                          obtain ⟨rfl, rfl, rfl⟩ := hg
                                                          subst hf
                                                          obtain ⟨j', hj, _, hjs, _⟩ := info_of info9
                                                          exact ⟨rfl, by decide, by decide, ⟨j', hj, hjs⟩, _, Tryd.underlying9, rfl, by decide⟩
                                                        | succ j =>
                                                          cases j with
                                                          | zero =>
                                                            simp at hf hg
                                                            obtain ⟨rfl, rfl, rfl⟩ := hg
                                                            subst hf
                                                            obtain ⟨j', hj, _, hjs, _⟩ := info_of info3
                                                            exact ⟨rfl, by decide, by decide, ⟨j', hj, hjs⟩, _, Tryd.underlying3, rfl, by decide⟩
                                                          | succ j =>
                                                            cases j with
                                                            | zero =>
                                                              simp at hf hg
                                                              obtain ⟨rfl, rfl, rfl⟩ := hg
                                                              subst hf
                                                              obtain ⟨j', hj, _, hjs, _⟩ := info_of info3
                                                              exact ⟨rfl, by decide, by decide, ⟨j', hj, hjs⟩, _, Tryd.underlying3, rfl, by decide⟩
                                                            | succ j =>
                                                              simp at hg
theorem ok36 : TdT Tryd.prog 36 (td 36) := by
  obtain ⟨i, hi, hz, hs, hb⟩ := info_of info36
  exact ⟨⟨_, Tryd.underlying36, rfl, ⟨_, rfl⟩⟩, i, hi, hs, hz, rfl, rfl⟩
theorem ok41 : TdT Tryd.prog 41 (td 41) := by
  obtain ⟨i, hi, hz, hs, hb⟩ := info_of info41
  exact ⟨⟨_, Tryd.underlying41, rfl, ⟨_, _, _, rfl⟩⟩, i, hi, hs, hz, rfl, rfl⟩
theorem ok54 : TdT Tryd.prog 54 (td 54) := by
  obtain ⟨i, hi, hz, hs, hb⟩ := info_of info54
  exact ⟨⟨_, Tryd.underlying54, rfl, rfl⟩, i, hi, hs, hz, rfl, rfl⟩
theorem ok56 : TdT Tryd.prog 56 (td 56) := by
  obtain ⟨i, hi, hz, hs, hb⟩ := info_of info56
  refine ⟨_, i, Tryd.underlying56, hi, hs, hz, rfl, by decide, by simp [Value.oneCell'], rfl, ?_⟩
  intro j f o s g hf hg
  cases j with
  | zero =>
    simp at hf hg
    obtain ⟨rfl, rfl, rfl⟩ := hg
    subst hf
    obtain ⟨j', hj, _, hjs, _⟩ := info_of info54
    exact ⟨rfl, by decide, by decide, ⟨j', hj, hjs⟩, _, Tryd.underlying54, rfl, by decide⟩
  | succ j =>
    cases j with
    | zero =>
      simp at hf hg
      obtain ⟨rfl, rfl, rfl⟩ := hg
      subst hf
      obtain ⟨j', hj, _, hjs, _⟩ := info_of info3
      exact ⟨rfl, by decide, by decide, ⟨j', hj, hjs⟩, _, Tryd.underlying3, rfl, by decide⟩
    | succ j =>
      simp at hg
theorem ok59 : TdT Tryd.prog 59 (td 59) := by
  obtain ⟨i, hi, hz, hs, hb⟩ := info_of info59
  exact ⟨⟨_, Tryd.underlying59, rfl, ⟨_, rfl⟩⟩, i, hi, hs, hz, rfl, rfl⟩
theorem ok72 : TdT Tryd.prog 72 (td 72) := by
  obtain ⟨i, hi, hz, hs, hb⟩ := info_of info72
  obtain ⟨j, hj, hjz, hjs, hjb⟩ := info_of info22
  exact ⟨Tryd.underlying72, by decide, ⟨j, _, hj, hjs, hjb, hjz, rfl⟩, i, hi, hs, hz⟩
theorem ok74 : TdT Tryd.prog 74 (td 74) := by
  obtain ⟨i, hi, hz, hs, hb⟩ := info_of info74
  obtain ⟨j, hj, hjz, hjs, hjb⟩ := info_of info77
  exact ⟨Tryd.underlying74, by decide, ⟨j, _, hj, hjs, hjb, hjz, rfl⟩, i, hi, hs, hz⟩
theorem ok77 : TdT Tryd.prog 77 (td 77) := by
  obtain ⟨i, hi, hz, hs, hb⟩ := info_of info77
  refine ⟨_, i, Tryd.underlying77, hi, hs, hz, rfl, by decide, by simp [Value.oneCell'], rfl, ?_⟩
  intro j f o s g hf hg
  cases j with
  | zero =>
    simp at hf hg
    obtain ⟨rfl, rfl, rfl⟩ := hg
    subst hf
    obtain ⟨j', hj, _, hjs, _⟩ := info_of info54
    exact ⟨rfl, by decide, by decide, ⟨j', hj, hjs⟩, _, Tryd.underlying54, rfl, by decide⟩
  | succ j =>
    cases j with
    | zero =>
      simp at hf hg
      obtain ⟨rfl, rfl, rfl⟩ := hg
      subst hf
      obtain ⟨j', hj, _, hjs, _⟩ := info_of info41
      exact ⟨rfl, by decide, by decide, ⟨j', hj, hjs⟩, _, Tryd.underlying41, rfl, by decide⟩
    | succ j =>
      simp at hg
theorem ok85 : TdT Tryd.prog 85 (td 85) := by
  obtain ⟨i, hi, hz, hs, hb⟩ := info_of info85
  exact ⟨⟨_, Tryd.underlying85, rfl, ⟨_, rfl⟩⟩, i, hi, hs, hz, rfl, rfl⟩
theorem ok93 : TdT Tryd.prog 93 (td 93) := by
  obtain ⟨i, hi, hz, hs, hb⟩ := info_of info93
  exact ⟨⟨_, Tryd.underlying93, rfl, ⟨_, _, _, rfl⟩⟩, i, hi, hs, hz, rfl, rfl⟩
theorem ok94 : TdT Tryd.prog 94 (td 94) := by
  obtain ⟨i, hi, hz, hs, hb⟩ := info_of info94
  exact ⟨⟨_, Tryd.underlying94, rfl, trivial⟩, i, hi, hs, hz, rfl, rfl⟩
theorem ok98 : TdT Tryd.prog 98 (td 98) := by
  obtain ⟨i, hi, hz, hs, hb⟩ := info_of info98
  refine ⟨_, i, Tryd.underlying98, hi, hs, hz, rfl, by decide, by simp [Value.oneCell'], rfl, ?_⟩
  intro j f o s g hf hg
  cases j with
  | zero =>
    simp at hf hg
    obtain ⟨rfl, rfl, rfl⟩ := hg
    subst hf
    obtain ⟨j', hj, _, hjs, _⟩ := info_of info9
    exact ⟨rfl, by decide, by decide, ⟨j', hj, hjs⟩, _, Tryd.underlying9, rfl, by decide⟩
  | succ j =>
    cases j with
    | zero =>
      simp at hf hg
      obtain ⟨rfl, rfl, rfl⟩ := hg
      subst hf
      obtain ⟨j', hj, _, hjs, _⟩ := info_of info9
      exact ⟨rfl, by decide, by decide, ⟨j', hj, hjs⟩, _, Tryd.underlying9, rfl, by decide⟩
    | succ j =>
      simp at hg
theorem ok116 : TdT Tryd.prog 116 (td 116) := by
  obtain ⟨i, hi, hz, hs, hb⟩ := info_of info116
  exact ⟨⟨_, Tryd.underlying116, rfl, ⟨_, _, _, rfl⟩⟩, i, hi, hs, hz, rfl, rfl⟩
theorem ok122 : TdT Tryd.prog 122 (td 122) := by
  obtain ⟨i, hi, hz, hs, hb⟩ := info_of info122
  exact ⟨⟨_, Tryd.underlying122, rfl, ⟨_, _, _, rfl⟩⟩, i, hi, hs, hz, rfl, rfl⟩
theorem ok124 : TdT Tryd.prog 124 (td 124) := by
  obtain ⟨i, hi, hz, hs, hb⟩ := info_of info124
  obtain ⟨j, hj, hjz, hjs, hjb⟩ := info_of info5
  exact ⟨Tryd.underlying124, by decide, ⟨j, _, hj, hjs, hjb, hjz, rfl⟩, i, hi, hs, hz⟩
theorem ok154 : TdT Tryd.prog 154 (td 154) := by
  obtain ⟨i, hi, hz, hs, hb⟩ := info_of info154
  exact ⟨⟨_, Tryd.underlying154, rfl, ⟨_, rfl⟩⟩, i, hi, hs, hz, rfl, rfl⟩
theorem tds : ∀ t, TdT Tryd.prog t (td t) := by
  intro t
  unfold td
  split
  · exact ok1
  · exact ok2
  · exact ok3
  · exact ok4
  · exact ok5
  · exact ok9
  · exact ok20
  · exact ok22
  · exact ok24
  · exact ok25
  · exact ok27
  · exact ok28
  · exact ok30
  · exact ok36
  · exact ok41
  · exact ok54
  · exact ok56
  · exact ok59
  · exact ok72
  · exact ok74
  · exact ok77
  · exact ok85
  · exact ok93
  · exact ok94
  · exact ok98
  · exact ok116
  · exact ok122
  · exact ok124
  · exact ok154
  · trivial

def conc : Nat → Bool
  | 2 => true
  | 3 => true
  | 4 => true
  | 5 => true
  | 9 => true
  | 22 => true
  | 24 => true
  | 25 => true
  | 27 => true
  | 28 => true
  | 30 => true
  | 54 => true
  | 56 => true
  | 72 => true
  | 74 => true
  | 77 => true
  | 98 => true
  | 124 => true
  | _ => false
theorem concs : ∀ t, conc t = true → ∃ d, Tryd.prog.underlying t = some d ∧ (match d with | .interface _ => false | _ => true) = true := by
  intro t h
  unfold conc at h
  split at h
  · exact ⟨_, Tryd.underlying2, rfl⟩
  · exact ⟨_, Tryd.underlying3, rfl⟩
  · exact ⟨_, Tryd.underlying4, rfl⟩
  · exact ⟨_, Tryd.underlying5, rfl⟩
  · exact ⟨_, Tryd.underlying9, rfl⟩
  · exact ⟨_, Tryd.underlying22, rfl⟩
  · exact ⟨_, Tryd.underlying24, rfl⟩
  · exact ⟨_, Tryd.underlying25, rfl⟩
  · exact ⟨_, Tryd.underlying27, rfl⟩
  · exact ⟨_, Tryd.underlying28, rfl⟩
  · exact ⟨_, Tryd.underlying30, rfl⟩
  · exact ⟨_, Tryd.underlying54, rfl⟩
  · exact ⟨_, Tryd.underlying56, rfl⟩
  · exact ⟨_, Tryd.underlying72, rfl⟩
  · exact ⟨_, Tryd.underlying74, rfl⟩
  · exact ⟨_, Tryd.underlying77, rfl⟩
  · exact ⟨_, Tryd.underlying98, rfl⟩
  · exact ⟨_, Tryd.underlying124, rfl⟩
  · cases h

def eqs : Nat → List Nat
  | 27 => [0, 0]
  | 56 => [0, 0]
  | 98 => [2, 2]
  | _ => []
theorem eq27 : Tryd.prog.eqGuardType Tryd.prog.depth 27 = false ∧ Tryd.prog.stoodInHeld 27 = false ∧ ∃ flds, Tryd.prog.underlying 27 = some (.struct flds) ∧ EqFlds Tryd.prog 0 flds.toList (eqs 27) := by
  refine ⟨by kernel_rfl, by kernel_rfl, _, Tryd.underlying27, ?_⟩
  exact ⟨rfl, by decide, ⟨_, Tryd.underlying3, trivial⟩, rfl, by decide, ⟨_, Tryd.underlying3, trivial⟩, trivial⟩
theorem eq56 : Tryd.prog.eqGuardType Tryd.prog.depth 56 = false ∧ Tryd.prog.stoodInHeld 56 = false ∧ ∃ flds, Tryd.prog.underlying 56 = some (.struct flds) ∧ EqFlds Tryd.prog 0 flds.toList (eqs 56) := by
  refine ⟨by kernel_rfl, by kernel_rfl, _, Tryd.underlying56, ?_⟩
  exact ⟨rfl, by decide, ⟨_, Tryd.underlying54, trivial⟩, rfl, by decide, ⟨_, Tryd.underlying3, trivial⟩, trivial⟩
theorem eq98 : Tryd.prog.eqGuardType Tryd.prog.depth 98 = false ∧ Tryd.prog.stoodInHeld 98 = false ∧ ∃ flds, Tryd.prog.underlying 98 = some (.struct flds) ∧ EqFlds Tryd.prog 0 flds.toList (eqs 98) := by
  refine ⟨by kernel_rfl, by kernel_rfl, _, Tryd.underlying98, ?_⟩
  exact ⟨rfl, by decide, ⟨_, Tryd.underlying9, trivial⟩, rfl, by decide, ⟨_, Tryd.underlying9, trivial⟩, trivial⟩
theorem eqss : ∀ t, eqs t ≠ [] → Tryd.prog.eqGuardType Tryd.prog.depth t = false ∧ Tryd.prog.stoodInHeld t = false ∧ ∃ flds, Tryd.prog.underlying t = some (.struct flds) ∧ EqFlds Tryd.prog 0 flds.toList (eqs t) := by
  intro t h
  unfold eqs at h
  split at h
  · exact eq27
  · exact eq56
  · exact eq98
  · exact absurd rfl h

/-- The functions. -/
noncomputable def fns : Nat → Option Func
  | 3 => some Tryd.f3
  | 4 => some Tryd.f4
  | 5 => some Tryd.f5
  | 6 => some Tryd.f6
  | 7 => some Tryd.f7
  | 8 => some Tryd.f8
  | 9 => some Tryd.f9
  | 10 => some Tryd.f10
  | 11 => some Tryd.f11
  | 12 => some Tryd.f12
  | 13 => some Tryd.f13
  | 14 => some Tryd.f14
  | 15 => some Tryd.f15
  | 16 => some Tryd.f16
  | 17 => some Tryd.f17
  | 18 => some Tryd.f18
  | 19 => some Tryd.f19
  | 20 => some Tryd.f20
  | 21 => some Tryd.f21
  | 22 => some Tryd.f22
  | 23 => some Tryd.f23
  | 24 => some Tryd.f24
  | 26 => some Tryd.f26
  | 27 => some Tryd.f27
  | 28 => some Tryd.f28
  | 29 => some Tryd.f29
  | 30 => some Tryd.f30
  | 31 => some Tryd.f31
  | 32 => some Tryd.f32
  | 33 => some Tryd.f33
  | 34 => some Tryd.f34
  | 35 => some Tryd.f35
  | 36 => some Tryd.f36
  | 37 => some Tryd.f37
  | 38 => some Tryd.f38
  | 39 => some Tryd.f39
  | 40 => some Tryd.f40
  | 41 => some Tryd.f41
  | 42 => some Tryd.f42
  | 43 => some Tryd.f43
  | 44 => some Tryd.f44
  | 45 => some Tryd.f45
  | 46 => some Tryd.f46
  | 47 => some Tryd.f47
  | 48 => some Tryd.f48
  | 49 => some Tryd.f49
  | 55 => some Tryd.f55
  | 56 => some Tryd.f56
  | 57 => some Tryd.f57
  | 58 => some Tryd.f58
  | 59 => some Tryd.f59
  | 60 => some Tryd.f60
  | 61 => some Tryd.f61
  | 62 => some Tryd.f62
  | 63 => some Tryd.f63
  | 64 => some Tryd.f64
  | 65 => some Tryd.f65
  | 66 => some Tryd.f66
  | 67 => some Tryd.f67
  | 68 => some Tryd.f68
  | 69 => some Tryd.f69
  | 70 => some Tryd.f70
  | 75 => some Tryd.f75
  | 76 => some Tryd.f76
  | 77 => some Tryd.f77
  | 78 => some Tryd.f78
  | 79 => some Tryd.f79
  | 99 => some Tryd.f99
  | 118 => some Tryd.f118
  | _ => none
theorem fnss : ∀ n fn, fns n = some fn → Tryd.prog.funcs[n]? = some fn ∧ fn.body.isSome = true ∧ (fn.name == "runtime.NumGoroutine") = false := by
  intro n fn h
  unfold fns at h
  split at h
  · cases h; exact ⟨Tryd.func3, rfl, by decide⟩
  · cases h; exact ⟨Tryd.func4, rfl, by decide⟩
  · cases h; exact ⟨Tryd.func5, rfl, by decide⟩
  · cases h; exact ⟨Tryd.func6, rfl, by decide⟩
  · cases h; exact ⟨Tryd.func7, rfl, by decide⟩
  · cases h; exact ⟨Tryd.func8, rfl, by decide⟩
  · cases h; exact ⟨Tryd.func9, rfl, by decide⟩
  · cases h; exact ⟨Tryd.func10, rfl, by decide⟩
  · cases h; exact ⟨Tryd.func11, rfl, by decide⟩
  · cases h; exact ⟨Tryd.func12, rfl, by decide⟩
  · cases h; exact ⟨Tryd.func13, rfl, by decide⟩
  · cases h; exact ⟨Tryd.func14, rfl, by decide⟩
  · cases h; exact ⟨Tryd.func15, rfl, by decide⟩
  · cases h; exact ⟨Tryd.func16, rfl, by decide⟩
  · cases h; exact ⟨Tryd.func17, rfl, by decide⟩
  · cases h; exact ⟨Tryd.func18, rfl, by decide⟩
  · cases h; exact ⟨Tryd.func19, rfl, by decide⟩
  · cases h; exact ⟨Tryd.func20, rfl, by decide⟩
  · cases h; exact ⟨Tryd.func21, rfl, by decide⟩
  · cases h; exact ⟨Tryd.func22, rfl, by decide⟩
  · cases h; exact ⟨Tryd.func23, rfl, by decide⟩
  · cases h; exact ⟨Tryd.func24, rfl, by decide⟩
  · cases h; exact ⟨Tryd.func26, rfl, by decide⟩
  · cases h; exact ⟨Tryd.func27, rfl, by decide⟩
  · cases h; exact ⟨Tryd.func28, rfl, by decide⟩
  · cases h; exact ⟨Tryd.func29, rfl, by decide⟩
  · cases h; exact ⟨Tryd.func30, rfl, by decide⟩
  · cases h; exact ⟨Tryd.func31, rfl, by decide⟩
  · cases h; exact ⟨Tryd.func32, rfl, by decide⟩
  · cases h; exact ⟨Tryd.func33, rfl, by decide⟩
  · cases h; exact ⟨Tryd.func34, rfl, by decide⟩
  · cases h; exact ⟨Tryd.func35, rfl, by decide⟩
  · cases h; exact ⟨Tryd.func36, rfl, by decide⟩
  · cases h; exact ⟨Tryd.func37, rfl, by decide⟩
  · cases h; exact ⟨Tryd.func38, rfl, by decide⟩
  · cases h; exact ⟨Tryd.func39, rfl, by decide⟩
  · cases h; exact ⟨Tryd.func40, rfl, by decide⟩
  · cases h; exact ⟨Tryd.func41, rfl, by decide⟩
  · cases h; exact ⟨Tryd.func42, rfl, by decide⟩
  · cases h; exact ⟨Tryd.func43, rfl, by decide⟩
  · cases h; exact ⟨Tryd.func44, rfl, by decide⟩
  · cases h; exact ⟨Tryd.func45, rfl, by decide⟩
  · cases h; exact ⟨Tryd.func46, rfl, by decide⟩
  · cases h; exact ⟨Tryd.func47, rfl, by decide⟩
  · cases h; exact ⟨Tryd.func48, rfl, by decide⟩
  · cases h; exact ⟨Tryd.func49, rfl, by decide⟩
  · cases h; exact ⟨Tryd.func55, rfl, by decide⟩
  · cases h; exact ⟨Tryd.func56, rfl, by decide⟩
  · cases h; exact ⟨Tryd.func57, rfl, by decide⟩
  · cases h; exact ⟨Tryd.func58, rfl, by decide⟩
  · cases h; exact ⟨Tryd.func59, rfl, by decide⟩
  · cases h; exact ⟨Tryd.func60, rfl, by decide⟩
  · cases h; exact ⟨Tryd.func61, rfl, by decide⟩
  · cases h; exact ⟨Tryd.func62, rfl, by decide⟩
  · cases h; exact ⟨Tryd.func63, rfl, by decide⟩
  · cases h; exact ⟨Tryd.func64, rfl, by decide⟩
  · cases h; exact ⟨Tryd.func65, rfl, by decide⟩
  · cases h; exact ⟨Tryd.func66, rfl, by decide⟩
  · cases h; exact ⟨Tryd.func67, rfl, by decide⟩
  · cases h; exact ⟨Tryd.func68, rfl, by decide⟩
  · cases h; exact ⟨Tryd.func69, rfl, by decide⟩
  · cases h; exact ⟨Tryd.func70, rfl, by decide⟩
  · cases h; exact ⟨Tryd.func75, rfl, by decide⟩
  · cases h; exact ⟨Tryd.func76, rfl, by decide⟩
  · cases h; exact ⟨Tryd.func77, rfl, by decide⟩
  · cases h; exact ⟨Tryd.func78, rfl, by decide⟩
  · cases h; exact ⟨Tryd.func79, rfl, by decide⟩
  · cases h; exact ⟨Tryd.func99, rfl, by decide⟩
  · cases h; exact ⟨Tryd.func118, rfl, by decide⟩
  · cases h

/-- Slots that nothing looks at any more, at each loop's head and behind it. -/
def kl : List (List Nat × List Nat × List Nat) := [([21, 22, 23, 24, 25, 28, 29, 30, 31, 32, 33, 34, 35, 36, 37, 38, 26, 27], [0, 2, 3, 4, 6, 7, 8, 9, 10, 11, 12, 13, 14, 15, 16, 17, 18, 19, 20, 21, 22, 23, 24, 25, 26, 27, 28, 29, 30, 31, 32, 33, 34, 35, 36, 37, 38, 39, 40, 41, 42, 43, 44, 45, 46, 47, 48, 49, 50, 51, 52, 53, 54, 55, 56, 57, 58, 59, 60, 61, 62, 63, 64, 65, 66, 67, 68, 69, 70, 71, 72, 73, 74, 75, 76], [0, 4, 5, 6, 7, 8, 9, 10, 11, 12, 13, 14, 15, 16, 17, 18, 19, 20, 21, 22, 23, 24, 25, 26, 27, 28, 29, 30, 31, 32, 33, 34, 35, 36, 37, 38, 39, 40, 41, 42, 43, 44, 45, 46, 47, 48, 49, 50, 51, 52, 53, 54, 55, 56, 57, 58, 59, 60, 61, 62, 63, 64, 65, 66, 67, 68, 69, 70, 71, 72, 73, 74, 75, 76]),
  ([39, 40, 41, 42, 43, 46, 47, 48, 49, 50, 51, 52, 53, 8, 54, 55, 56, 57, 58, 59, 60, 61, 62, 63, 64, 65, 66, 67, 68, 69, 70, 71, 72, 73, 74, 75, 76, 44, 45], [0, 2, 3, 4, 5, 6, 8, 9, 10, 11, 12, 13, 14, 15, 16, 17, 18, 19, 20, 21, 22, 23, 24, 25, 26, 27, 28, 29, 30, 31, 32, 33, 34, 35, 36, 37, 38, 39, 40, 41, 42, 43, 44, 45, 46, 47, 48, 49, 50, 51, 52, 53, 54, 55, 56, 57, 58, 59, 60, 61, 62, 63, 64, 65, 66, 67, 68, 69, 70, 71, 72, 73, 74, 75, 76], [0, 1, 4, 5, 6, 7, 8, 9, 10, 11, 12, 13, 14, 15, 16, 17, 18, 19, 20, 21, 22, 23, 24, 25, 26, 27, 28, 29, 30, 31, 32, 33, 34, 35, 36, 37, 38, 39, 40, 41, 42, 43, 44, 45, 46, 47, 48, 49, 50, 51, 52, 53, 54, 55, 56, 57, 58, 59, 60, 61, 62, 63, 64, 65, 66, 67, 68, 69, 70, 71, 72, 73, 74, 75, 76]),
  ([18, 19, 20, 21, 22, 23, 24, 25, 26, 27, 28, 17], [0, 2, 3, 4, 5, 6, 7, 8, 9, 10, 11, 12, 13, 14, 18, 19, 20, 21, 22, 23, 24, 25, 26, 27, 28, 29, 30, 31, 32, 33, 34, 35, 36, 37, 38, 39, 40, 41, 42, 43, 44, 45, 46, 47, 48, 49, 50, 51, 52, 53, 54, 55, 56, 57, 58, 59, 60, 61, 62, 63, 64, 65, 66], [0, 3, 4, 5, 6, 7, 8, 9, 10, 11, 12, 13, 14, 15, 16, 17, 18, 19, 20, 21, 22, 23, 24, 25, 26, 27, 28, 29, 30, 31, 32, 33, 34, 35, 36, 37, 38, 39, 40, 41, 42, 43, 44, 45, 46, 47, 48, 49, 50, 51, 52, 53, 54, 55, 56, 57, 58, 59, 60, 61, 62, 63, 64, 65, 66]),
  ([33, 34, 35, 36, 7, 37, 38, 39, 40, 41, 42, 43, 44, 45, 46, 32], [0, 2, 3, 4, 5, 6, 7, 8, 9, 10, 11, 12, 13, 14, 15, 16, 17, 18, 19, 20, 21, 22, 23, 24, 25, 26, 27, 28, 29, 33, 34, 35, 36, 37, 38, 39, 40, 41, 42, 43, 44, 45, 46, 47, 48, 49, 50, 51, 52, 53, 54, 55, 56, 57, 58, 59, 60, 61, 62, 63, 64, 65, 66], [0, 3, 4, 5, 6, 7, 8, 9, 10, 11, 12, 13, 14, 15, 16, 17, 18, 19, 20, 21, 22, 23, 24, 25, 26, 27, 28, 29, 30, 31, 32, 33, 34, 35, 36, 37, 38, 39, 40, 41, 42, 43, 44, 45, 46, 47, 48, 49, 50, 51, 52, 53, 54, 55, 56, 57, 58, 59, 60, 61, 62, 63, 64, 65, 66]),
  ([51, 52, 53, 54, 10, 55, 56, 57, 58, 59, 60, 61, 62, 63, 64, 65, 66, 50], [0, 2, 3, 4, 5, 6, 7, 8, 9, 10, 11, 12, 13, 14, 15, 16, 17, 18, 19, 20, 21, 22, 23, 24, 25, 26, 27, 28, 29, 30, 31, 32, 33, 34, 35, 36, 37, 38, 39, 40, 41, 42, 43, 44, 45, 46, 47, 51, 52, 53, 54, 55, 56, 57, 58, 59, 60, 61, 62, 63, 64, 65, 66], [0, 1, 3, 4, 5, 6, 7, 8, 9, 10, 11, 12, 13, 14, 15, 16, 17, 18, 19, 20, 21, 22, 23, 24, 25, 26, 27, 28, 29, 30, 31, 32, 33, 34, 35, 36, 37, 38, 39, 40, 41, 42, 43, 44, 45, 46, 47, 48, 49, 50, 51, 52, 53, 54, 55, 56, 57, 58, 59, 60, 61, 62, 63, 64, 65, 66]),
  ([31, 32, 33, 8, 34, 35, 36, 37, 38, 39, 40, 41, 42, 30], [0, 1, 3, 4, 6, 7, 8, 9, 10, 11, 12, 13, 14, 15, 16, 17, 18, 19, 20, 21, 22, 23, 24, 25, 26, 27, 31, 32, 33, 34, 35, 36, 37, 38, 39, 40, 41, 42], [0, 1, 2, 3, 5, 6, 7, 8, 9, 10, 11, 12, 13, 14, 15, 16, 17, 18, 19, 20, 21, 22, 23, 24, 25, 26, 27, 28, 29, 30, 31, 32, 33, 34, 35, 36, 37, 38, 39, 40, 41, 42]),
  ([55, 56, 57, 58, 59, 62, 63, 64, 65, 66, 67, 68, 69, 70, 71, 72, 73, 74, 75, 76, 77, 78, 79, 80, 81, 82, 83, 84, 85, 86, 87, 60, 61], [0, 1, 3, 4, 5, 7, 9, 10, 11, 12, 13, 14, 15, 16, 17, 18, 19, 20, 21, 22, 23, 24, 25, 26, 27, 28, 29, 30, 31, 32, 33, 34, 35, 36, 37, 38, 39, 40, 41, 42, 43, 44, 45, 46, 47, 48, 49, 50, 51, 52, 53, 54, 55, 56, 57, 58, 59, 60, 61, 62, 63, 64, 65, 66, 67, 68, 69, 70, 71, 72, 73, 74, 75, 76, 77, 78, 79, 80, 81, 82, 83, 84, 85, 86, 87], [0, 1, 2, 3, 5, 6, 7, 8, 9, 10, 11, 12, 13, 14, 15, 16, 17, 18, 19, 20, 21, 22, 23, 24, 25, 26, 27, 28, 29, 30, 31, 32, 33, 34, 35, 36, 37, 38, 39, 40, 41, 42, 43, 44, 45, 46, 47, 48, 49, 50, 51, 52, 53, 54, 55, 56, 57, 58, 59, 60, 61, 62, 63, 64, 65, 66, 67, 68, 69, 70, 71, 72, 73, 74, 75, 76, 77, 78, 79, 80, 81, 82, 83, 84, 85, 86, 87]),
  ([6, 7, 8, 9, 12, 13, 14, 15, 16, 5, 17, 18, 19, 20, 10, 11], [1, 2, 5, 6, 7, 8, 9, 10, 11, 12, 13, 14, 15, 16, 17, 18, 19, 20, 21, 22, 23, 24, 25, 26], [0, 1, 4, 5, 6, 7, 8, 9, 10, 11, 12, 13, 14, 15, 16, 17, 18, 19, 20, 21, 22, 23, 24, 25, 26]),
  ([7, 8, 11, 12, 13, 14, 15, 16, 17, 9, 10], [1, 2, 5, 6, 7, 8, 9, 10, 11, 12, 13, 14, 15, 16, 17, 18, 19, 20, 21, 22, 23, 24, 25], [1, 4, 5, 6, 7, 8, 9, 10, 11, 12, 13, 14, 15, 16, 17, 18, 19, 20, 21, 22, 23, 24, 25]),
  ([6, 7, 8, 9, 12, 13, 14, 15, 16, 17, 18, 19, 10, 11], [2, 3, 4, 6, 7, 8, 9, 10, 11, 12, 13, 14, 15, 16, 17, 18, 19], [0, 1, 2, 3, 5, 6, 7, 8, 9, 10, 11, 12, 13, 14, 15, 16, 17, 18, 19]),
  ([7, 8, 9, 10, 11, 14, 15, 16, 17, 18, 19, 20, 21, 22, 23, 24, 25, 26, 27, 28, 29, 30, 31, 32, 12, 13], [0, 3, 4, 7, 8, 9, 10, 11, 12, 13, 14, 15, 16, 17, 18, 19, 20, 21, 22, 23, 24, 25, 26, 27, 28, 29, 30, 31, 32, 33], [0, 1, 2, 3, 6, 7, 8, 9, 10, 11, 12, 13, 14, 15, 16, 17, 18, 19, 20, 21, 22, 23, 24, 25, 26, 27, 28, 29, 30, 31, 32, 33]),
  ([11, 12, 13, 14, 17, 18, 19, 20, 21, 22, 23, 24, 25, 26, 15, 16], [2, 3, 4, 6, 7, 8, 9, 10, 11, 12, 13, 14, 15, 16, 17, 18, 19, 20, 21, 22, 23, 24, 25, 26], [0, 1, 2, 3, 5, 6, 7, 8, 9, 10, 11, 12, 13, 14, 15, 16, 17, 18, 19, 20, 21, 22, 23, 24, 25, 26]),
  ([12, 13, 14, 7, 15, 16, 17, 18, 19, 20, 21, 22, 23, 24, 25, 26, 27, 11], [0, 2, 3, 6, 7, 8, 12, 13, 14, 15, 16, 17, 18, 19, 20, 21, 22, 23, 24, 25, 26, 27, 28], [0, 1, 2, 3, 6, 7, 8, 9, 10, 11, 12, 13, 14, 15, 16, 17, 18, 19, 20, 21, 22, 23, 24, 25, 26, 27, 28]),
  ([8, 9, 10, 11, 12, 15, 16, 17, 18, 19, 20, 21, 22, 23, 24, 25, 26, 27, 28, 29, 30, 31, 32, 33, 34, 13, 14], [0, 3, 7, 8, 9, 10, 11, 12, 13, 14, 15, 16, 17, 18, 19, 20, 21, 22, 23, 24, 25, 26, 27, 28, 29, 30, 31, 32, 33, 34, 35], [0, 1, 2, 3, 6, 7, 8, 9, 10, 11, 12, 13, 14, 15, 16, 17, 18, 19, 20, 21, 22, 23, 24, 25, 26, 27, 28, 29, 30, 31, 32, 33, 34, 35]),
  ([4, 5, 6, 7, 10, 11, 12, 13, 14, 15, 16, 17, 18, 19, 20, 8, 9], [1, 2, 4, 5, 6, 7, 8, 9, 10, 11, 12, 13, 14, 15, 16, 17, 18, 19, 20], [0, 1, 3, 4, 5, 6, 7, 8, 9, 10, 11, 12, 13, 14, 15, 16, 17, 18, 19, 20]),
  ([10, 11, 12, 13, 5, 14, 15, 16, 17, 18, 19, 20, 21, 22, 23, 24, 25, 9], [0, 1, 2, 4, 5, 6, 10, 11, 12, 13, 14, 15, 16, 17, 18, 19, 20, 21, 22, 23, 24, 25], [0, 1, 3, 4, 5, 6, 7, 8, 9, 10, 11, 12, 13, 14, 15, 16, 17, 18, 19, 20, 21, 22, 23, 24, 25]),
  ([7, 8, 9, 10, 11, 14, 15, 16, 17, 18, 19, 20, 21, 22, 23, 24, 25, 26, 27, 28, 29, 30, 31, 32, 33, 34, 35, 36, 37, 38, 39, 40, 12, 13], [0, 3, 4, 7, 8, 9, 10, 11, 12, 13, 14, 15, 16, 17, 18, 19, 20, 21, 22, 23, 24, 25, 26, 27, 28, 29, 30, 31, 32, 33, 34, 35, 36, 37, 38, 39, 40, 41], [0, 1, 2, 3, 6, 7, 8, 9, 10, 11, 12, 13, 14, 15, 16, 17, 18, 19, 20, 21, 22, 23, 24, 25, 26, 27, 28, 29, 30, 31, 32, 33, 34, 35, 36, 37, 38, 39, 40, 41]),
  ([6, 7, 8, 9, 12, 13, 14, 15, 16, 17, 18, 10, 11], [2, 6, 7, 8, 9, 10, 11, 12, 13, 14, 15, 16, 17, 18], [0, 1, 5, 6, 7, 8, 9, 10, 11, 12, 13, 14, 15, 16, 17, 18]),
  ([8, 9, 10, 11, 12, 15, 16, 17, 18, 19, 7, 20, 21, 22, 23, 24, 25, 26, 27, 28, 29, 30, 31, 32, 33, 34, 35, 13, 14], [0, 1, 4, 7, 8, 9, 10, 11, 12, 13, 14, 15, 16, 17, 18, 19, 20, 21, 22, 23, 24, 25, 26, 27, 28, 29, 30, 31, 32, 33, 34, 35, 36], [0, 1, 2, 3, 6, 7, 8, 9, 10, 11, 12, 13, 14, 15, 16, 17, 18, 19, 20, 21, 22, 23, 24, 25, 26, 27, 28, 29, 30, 31, 32, 33, 34, 35, 36]),
  ([19, 20, 23, 24, 25, 26, 27, 21, 22], [0, 1, 2, 4, 6, 7, 8, 9, 10, 11, 12, 13, 14, 15, 16, 17, 18, 19, 20, 21, 22, 23, 24, 25, 26, 27, 28], [0, 1, 4, 5, 6, 7, 8, 9, 10, 11, 12, 13, 14, 15, 16, 17, 18, 19, 20, 21, 22, 23, 24, 25, 26, 27, 28]),
  ([9, 10, 11, 12, 13, 14, 15, 16, 17, 18, 8], [2, 3, 4, 5, 6, 9, 10, 11, 12, 13, 14, 15, 16, 17, 18], [0, 1, 2, 3, 5, 6, 7, 8, 9, 10, 11, 12, 13, 14, 15, 16, 17, 18]),
  ([11, 12, 13, 7, 14, 15, 16, 17, 18, 19, 10], [0, 2, 3, 4, 6, 7, 11, 12, 13, 14, 15, 16, 17, 18, 19, 20], [0, 1, 2, 3, 6, 7, 8, 9, 10, 11, 12, 13, 14, 15, 16, 17, 18, 19, 20]),
  ([11, 12, 13, 14, 17, 18, 19, 20, 21, 22, 23, 24, 25, 15, 16], [2, 3, 4, 6, 7, 8, 9, 10, 11, 12, 13, 14, 15, 16, 17, 18, 19, 20, 21, 22, 23, 24, 25], [0, 1, 2, 3, 5, 6, 7, 8, 9, 10, 11, 12, 13, 14, 15, 16, 17, 18, 19, 20, 21, 22, 23, 24, 25]),
  ([13, 14, 15, 16, 19, 20, 21, 22, 23, 6, 24, 25, 26, 27, 28, 29, 30, 31, 32, 33, 34, 35, 36, 37, 17, 18], [2, 3, 4, 6, 7, 8, 9, 10, 11, 12, 13, 14, 15, 16, 17, 18, 19, 20, 21, 22, 23, 24, 25, 26, 27, 28, 29, 30, 31, 32, 33, 34, 35, 36, 37], [0, 1, 2, 3, 5, 6, 7, 8, 9, 10, 11, 12, 13, 14, 15, 16, 17, 18, 19, 20, 21, 22, 23, 24, 25, 26, 27, 28, 29, 30, 31, 32, 33, 34, 35, 36, 37]),
  ([6, 7, 8, 9, 12, 13, 14, 15, 16, 17, 10, 11], [1, 2, 4, 6, 7, 8, 9, 10, 11, 12, 13, 14, 15, 16, 17], [0, 1, 2, 3, 5, 6, 7, 8, 9, 10, 11, 12, 13, 14, 15, 16, 17]),
  ([13, 14, 15, 7, 16, 17, 18, 19, 20, 21, 9, 22, 23, 24, 25, 26, 27, 28, 29, 18, 30, 12], [0, 2, 3, 4, 6, 7, 8, 9, 13, 14, 15, 16, 17, 18, 19, 20, 21, 22, 23, 24, 25, 26, 27, 28, 29, 30, 31], [0, 1, 2, 3, 6, 7, 8, 9, 10, 11, 12, 13, 14, 15, 16, 17, 18, 19, 20, 21, 22, 23, 24, 25, 26, 27, 28, 29, 30, 31]),
  ([19, 20, 21, 9, 22, 23, 24, 25, 26, 27, 28, 29, 18], [0, 2, 3, 4, 6, 8, 9, 13, 14, 15, 19, 20, 21, 22, 23, 24, 25, 26, 27, 28, 29, 30, 31], [0, 2, 3, 6, 7, 8, 9, 13, 14, 15, 16, 17, 18, 19, 20, 21, 22, 23, 24, 25, 26, 27, 28, 29, 30, 31]),
  ([8, 9, 10, 4, 11, 12, 13, 14, 15, 7], [1, 2, 3, 4, 8, 9, 10, 11, 12, 13, 14, 15], [0, 1, 2, 3, 4, 5, 6, 7, 8, 9, 10, 11, 12, 13, 14, 15])]
/-- The sizes of the elements of slices within a type's cells. -/
def zz : Nat → List Nat
  | 22 => [32]
  | 24 => [32, 32, 32, 32]
  | 25 => [2]
  | 30 => [0, 0, 0, 0, 2, 0, 0, 0, 0, 0, 0, 0, 0, 0, 0, 0, 0, 0, 0, 0, 0, 0, 0, 0, 0, 0, 0, 2, 0, 0, 0, 0]
  | 72 => [1]
  | 74 => [2]
  | 124 => [1]
  | _ => []
/-- The table, with summaries of functions. -/
noncomputable def ctx (m : Nat → Option (List AV → Option (AV × List Blk))) : Ctx := ⟨td, conc, eqs, fns, zz, kl, m⟩
theorem ctx_ok {G : World → Prop} (m : Nat → Option (List AV → Option (AV × List Blk))) (hm : ∀ n f, m n = some f → Models Tryd.prog G n f ∧ ∃ fn, Tryd.prog.funcs[n]? = some fn ∧ fn.body.isSome = true ∧ (fn.name == "runtime.NumGoroutine") = false) : CtxOk Tryd.prog (ctx m) G :=
  ⟨TdOk.of tds concs, hm, eqss, fnss⟩
end Go.Proofs.YtcchccdbkpidpaaDoor.AvT
