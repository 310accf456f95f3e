/- The table of types and functions of this program, for the interpreter over plain values; written by a program, proved by Lean. -/
import Derived.Test.YtalkodandfjkmaaDoorProg
import Derived.Test.YtalkodandfjkmaaDoorChecked
import Derived.Test.YtalkodandfjkmaaDoorMg1
set_option maxRecDepth 100000
set_option linter.unusedVariables false
namespace Go.Proofs.YtalkodandfjkmaaDoor.AvT
open Go Go.RowKit Go.Proofs.YtalkodandfjkmaaDoor.Av

/-- What a type is. -/
def td : Nat → TD
  | 1 => .one (.nilFunc)
  | 2 => .one (.int .i64 0)
  | 3 => .one (.int .i64 0)
  | 4 => .one (.bool false)
  | 5 => .one (.int .u8 0)
  | 6 => .one (.int .u8 0)
  | 8 => .agg 4 [(0, 1, false), (1, 1, false), (2, 1, false), (3, 1, false)] [.int .i64 0, .int .i64 0, .bool false, .int .u8 0]
  | 9 => .one (.string ⟨#[]⟩)
  | 20 => .one (.nilIface)
  | 22 => .one (.int .u64 0)
  | 26 => .one (.nilIface)
  | 34 => .sl 5 1 1
  | 35 => .sl 9 1 16
  | 37 => .agg 2 [(0, 1, false), (1, 1, false)] [.int .i64 0, .int .i64 0]
  | 39 => .agg 2 [(0, 1, false), (1, 1, false)] [.string ⟨#[]⟩, .string ⟨#[]⟩]
  | 40 => .sl 39 2 32
  | 42 => .agg 32 [(0, 1, false), (1, 1, false), (2, 1, false), (3, 1, false), (4, 1, false), (5, 2, true), (7, 1, false), (8, 1, false), (9, 1, false), (10, 1, false), (11, 1, false), (12, 1, false), (13, 1, false), (14, 1, false), (15, 1, false), (16, 1, false), (17, 2, true), (19, 1, false), (20, 1, false), (21, 1, false), (22, 1, false), (23, 1, false), (24, 1, false), (25, 1, false), (26, 1, false), (27, 1, false), (28, 1, false), (29, 1, false), (30, 1, false), (31, 1, false)] [.int .i64 0, .string ⟨#[]⟩, .int .i64 0, .int .i64 0, .slice none 0 0, .int .i64 0, .int .i64 0, .bool false, .bool false, .bool false, .int .i64 0, .string ⟨#[]⟩, .string ⟨#[]⟩, .string ⟨#[]⟩, .int .i64 0, .bool false, .bool false, .int .i64 0, .int .i64 0, .string ⟨#[]⟩, .int .i64 0, .int .i64 0, .int .i64 0, .int .i64 0, .int .i64 0, .bool false, .int .u64 0, .slice none 0 0, .int .i64 0, .string ⟨#[]⟩, .int .i64 0, .int .i64 0]
  | 46 => .one (.int .i64 0)
  | 50 => .agg 2 [(0, 1, false), (1, 1, false)] [.int .i64 0, .int .i64 0]
  | 53 => .one (.pointer none)
  | 54 => .one (.int .u64 0)
  | 65 => .one (.nilIface)
  | 71 => .one (.pointer none)
  | 72 => .sl 20 1 16
  | 121 => .one (.pointer none)
  | _ => .no

theorem info1 : (Tryd.prog.info? 1).map (fun i => (i.zero, i.size, i.bytes)) = some (some (.nilFunc), 1, 8) := by kernel_rfl
theorem info2 : (Tryd.prog.info? 2).map (fun i => (i.zero, i.size, i.bytes)) = some (some (.int .i64 0), 1, 8) := by kernel_rfl
theorem info3 : (Tryd.prog.info? 3).map (fun i => (i.zero, i.size, i.bytes)) = some (some (.int .i64 0), 1, 8) := by kernel_rfl
theorem info4 : (Tryd.prog.info? 4).map (fun i => (i.zero, i.size, i.bytes)) = some (some (.bool false), 1, 1) := by kernel_rfl
theorem info5 : (Tryd.prog.info? 5).map (fun i => (i.zero, i.size, i.bytes)) = some (some (.int .u8 0), 1, 1) := by kernel_rfl
theorem info6 : (Tryd.prog.info? 6).map (fun i => (i.zero, i.size, i.bytes)) = some (some (.int .u8 0), 1, 1) := by kernel_rfl
theorem info8 : (Tryd.prog.info? 8).map (fun i => (i.zero, i.size, i.bytes)) = some (some (.agg #[.int .i64 0, .int .i64 0, .bool false, .int .u8 0]), 4, 24) := by kernel_rfl
theorem info9 : (Tryd.prog.info? 9).map (fun i => (i.zero, i.size, i.bytes)) = some (some (.string ⟨#[]⟩), 1, 16) := by kernel_rfl
theorem info20 : (Tryd.prog.info? 20).map (fun i => (i.zero, i.size, i.bytes)) = some (some (.nilIface), 1, 16) := by kernel_rfl
theorem info22 : (Tryd.prog.info? 22).map (fun i => (i.zero, i.size, i.bytes)) = some (some (.int .u64 0), 1, 8) := by kernel_rfl
theorem info26 : (Tryd.prog.info? 26).map (fun i => (i.zero, i.size, i.bytes)) = some (some (.nilIface), 1, 16) := by kernel_rfl
theorem info34 : (Tryd.prog.info? 34).map (fun i => (i.zero, i.size, i.bytes)) = some (some (.slice none 0 0), 1, 24) := by kernel_rfl
theorem info35 : (Tryd.prog.info? 35).map (fun i => (i.zero, i.size, i.bytes)) = some (some (.slice none 0 0), 1, 24) := by kernel_rfl
theorem info37 : (Tryd.prog.info? 37).map (fun i => (i.zero, i.size, i.bytes)) = some (some (.agg #[.int .i64 0, .int .i64 0]), 2, 16) := by kernel_rfl
theorem info39 : (Tryd.prog.info? 39).map (fun i => (i.zero, i.size, i.bytes)) = some (some (.agg #[.string ⟨#[]⟩, .string ⟨#[]⟩]), 2, 32) := by kernel_rfl
theorem info40 : (Tryd.prog.info? 40).map (fun i => (i.zero, i.size, i.bytes)) = some (some (.slice none 0 0), 1, 24) := by kernel_rfl
theorem info42 : (Tryd.prog.info? 42).map (fun i => (i.zero, i.size, i.bytes)) = some (some (.agg #[.int .i64 0, .string ⟨#[]⟩, .int .i64 0, .int .i64 0, .slice none 0 0, .int .i64 0, .int .i64 0, .bool false, .bool false, .bool false, .int .i64 0, .string ⟨#[]⟩, .string ⟨#[]⟩, .string ⟨#[]⟩, .int .i64 0, .bool false, .bool false, .int .i64 0, .int .i64 0, .string ⟨#[]⟩, .int .i64 0, .int .i64 0, .int .i64 0, .int .i64 0, .int .i64 0, .bool false, .int .u64 0, .slice none 0 0, .int .i64 0, .string ⟨#[]⟩, .int .i64 0, .int .i64 0]), 32, 312) := by kernel_rfl
theorem info46 : (Tryd.prog.info? 46).map (fun i => (i.zero, i.size, i.bytes)) = some (some (.int .i64 0), 1, 8) := by kernel_rfl
theorem info50 : (Tryd.prog.info? 50).map (fun i => (i.zero, i.size, i.bytes)) = some (some (.agg #[.int .i64 0, .int .i64 0]), 2, 16) := by kernel_rfl
theorem info53 : (Tryd.prog.info? 53).map (fun i => (i.zero, i.size, i.bytes)) = some (some (.pointer none), 1, 8) := by kernel_rfl
theorem info54 : (Tryd.prog.info? 54).map (fun i => (i.zero, i.size, i.bytes)) = some (some (.int .u64 0), 1, 8) := by kernel_rfl
theorem info65 : (Tryd.prog.info? 65).map (fun i => (i.zero, i.size, i.bytes)) = some (some (.nilIface), 1, 16) := by kernel_rfl
theorem info71 : (Tryd.prog.info? 71).map (fun i => (i.zero, i.size, i.bytes)) = some (some (.pointer none), 1, 8) := by kernel_rfl
theorem info72 : (Tryd.prog.info? 72).map (fun i => (i.zero, i.size, i.bytes)) = some (some (.slice none 0 0), 1, 24) := by kernel_rfl
theorem info121 : (Tryd.prog.info? 121).map (fun i => (i.zero, i.size, i.bytes)) = some (some (.pointer none), 1, 8) := by kernel_rfl

theorem ok1 : TdT Tryd.prog 1 (td 1) := by
  obtain ⟨i, hi, hz, hs, hb⟩ := info_of info1
  exact ⟨⟨_, Tryd.underlying1, rfl, ⟨_, _, _, rfl⟩⟩, i, hi, hs, hz, rfl, rfl⟩
theorem ok2 : TdT Tryd.prog 2 (td 2) := by
  obtain ⟨i, hi, hz, hs, hb⟩ := info_of info2
  exact ⟨⟨_, Tryd.underlying2, rfl, rfl⟩, i, hi, hs, hz, rfl, rfl⟩
theorem ok3 : TdT Tryd.prog 3 (td 3) := by
  obtain ⟨i, hi, hz, hs, hb⟩ := info_of info3
  exact ⟨⟨_, Tryd.underlying3, rfl, rfl⟩, i, hi, hs, hz, rfl, rfl⟩
theorem ok4 : TdT Tryd.prog 4 (td 4) := by
  obtain ⟨i, hi, hz, hs, hb⟩ := info_of info4
  exact ⟨⟨_, Tryd.underlying4, rfl, rfl⟩, i, hi, hs, hz, rfl, rfl⟩
theorem ok5 : TdT Tryd.prog 5 (td 5) := by
  obtain ⟨i, hi, hz, hs, hb⟩ := info_of info5
  exact ⟨⟨_, Tryd.underlying5, rfl, rfl⟩, i, hi, hs, hz, rfl, rfl⟩
theorem ok6 : TdT Tryd.prog 6 (td 6) := by
  obtain ⟨i, hi, hz, hs, hb⟩ := info_of info6
  exact ⟨⟨_, Tryd.underlying6, rfl, rfl⟩, i, hi, hs, hz, rfl, rfl⟩
theorem ok8 : TdT Tryd.prog 8 (td 8) := by
  obtain ⟨i, hi, hz, hs, hb⟩ := info_of info8
  refine ⟨_, i, Tryd.underlying8, hi, hs, hz, rfl, by decide, by simp [Value.oneCell'], rfl, ?_⟩
  intro j f o s g hf hg
  cases j with
  | zero =>
    simp at hf hg
    obtain ⟨rfl, rfl, rfl⟩ := hg
    subst hf
    obtain ⟨j', hj, _, hjs, _⟩ := info_of info2
    exact ⟨rfl, by decide, by decide, ⟨j', hj, hjs⟩, _, Tryd.underlying2, rfl, by decide⟩
  | succ j =>
    cases j with
    | zero =>
      simp at hf hg
      obtain ⟨rfl, rfl, rfl⟩ := hg
      subst hf
      obtain ⟨j', hj, _, hjs, _⟩ := info_of info3
      exact ⟨rfl, by decide, by decide, ⟨j', hj, hjs⟩, _, Tryd.underlying3, rfl, by decide⟩
    | succ j =>
      cases j with
      | zero =>
        simp at hf hg
        obtain ⟨rfl, rfl, rfl⟩ := hg
        subst hf
        obtain ⟨j', hj, _, hjs, _⟩ := info_of info4
        exact ⟨rfl, by decide, by decide, ⟨j', hj, hjs⟩, _, Tryd.underlying4, rfl, by decide⟩
      | succ j =>
        cases j with
        | zero =>
          simp at hf hg
          obtain ⟨rfl, rfl, rfl⟩ := hg
          subst hf
          obtain ⟨j', hj, _, hjs, _⟩ := info_of info6
          exact ⟨rfl, by decide, by decide, ⟨j', hj, hjs⟩, _, Tryd.underlying6, rfl, by decide⟩
        | succ j =>
          simp at hg
theorem ok9 : TdT Tryd.prog 9 (td 9) := by
  obtain ⟨i, hi, hz, hs, hb⟩ := info_of info9
  exact ⟨⟨_, Tryd.underlying9, rfl, rfl⟩, i, hi, hs, hz, rfl, rfl⟩
theorem ok20 : TdT Tryd.prog 20 (td 20) := by
  obtain ⟨i, hi, hz, hs, hb⟩ := info_of info20
  exact ⟨⟨_, Tryd.underlying20, rfl, ⟨_, rfl⟩⟩, i, hi, hs, hz, rfl, rfl⟩
theorem ok22 : TdT Tryd.prog 22 (td 22) := by
  obtain ⟨i, hi, hz, hs, hb⟩ := info_of info22
  exact ⟨⟨_, Tryd.underlying22, rfl, rfl⟩, i, hi, hs, hz, rfl, rfl⟩
theorem ok26 : TdT Tryd.prog 26 (td 26) := by
  obtain ⟨i, hi, hz, hs, hb⟩ := info_of info26
  exact ⟨⟨_, Tryd.underlying26, rfl, ⟨_, rfl⟩⟩, i, hi, hs, hz, rfl, rfl⟩
theorem ok34 : TdT Tryd.prog 34 (td 34) := by
  obtain ⟨i, hi, hz, hs, hb⟩ := info_of info34
  obtain ⟨j, hj, hjz, hjs, hjb⟩ := info_of info5
  exact ⟨Tryd.underlying34, by decide, ⟨j, _, hj, hjs, hjb, hjz, rfl⟩, i, hi, hs, hz⟩
theorem ok35 : TdT Tryd.prog 35 (td 35) := by
  obtain ⟨i, hi, hz, hs, hb⟩ := info_of info35
  obtain ⟨j, hj, hjz, hjs, hjb⟩ := info_of info9
  exact ⟨Tryd.underlying35, by decide, ⟨j, _, hj, hjs, hjb, hjz, rfl⟩, i, hi, hs, hz⟩
theorem ok37 : TdT Tryd.prog 37 (td 37) := by
  obtain ⟨i, hi, hz, hs, hb⟩ := info_of info37
  refine ⟨_, i, Tryd.underlying37, hi, hs, hz, rfl, by decide, by simp [Value.oneCell'], rfl, ?_⟩
  intro j f o s g hf hg
  cases j with
  | zero =>
    simp at hf hg
    obtain ⟨rfl, rfl, rfl⟩ := hg
    subst hf
    obtain ⟨j', hj, _, hjs, _⟩ := info_of info3
    exact ⟨rfl, by decide, by decide, ⟨j', hj, hjs⟩, _, Tryd.underlying3, rfl, by decide⟩
  | succ j =>
    cases j with
    | zero =>
      simp at hf hg
      obtain ⟨rfl, rfl, rfl⟩ := hg
      subst hf
      obtain ⟨j', hj, _, hjs, _⟩ := info_of info3
      exact ⟨rfl, by decide, by decide, ⟨j', hj, hjs⟩, _, Tryd.underlying3, rfl, by decide⟩
    | succ j =>
      simp at hg
theorem ok39 : TdT Tryd.prog 39 (td 39) := by
  obtain ⟨i, hi, hz, hs, hb⟩ := info_of info39
  refine ⟨_, i, Tryd.underlying39, hi, hs, hz, rfl, by decide, by simp [Value.oneCell'], rfl, ?_⟩
  intro j f o s g hf hg
  cases j with
  | zero =>
    simp at hf hg
    obtain ⟨rfl, rfl, rfl⟩ := hg
    subst hf
    obtain ⟨j', hj, _, hjs, _⟩ := info_of info9
    exact ⟨rfl, by decide, by decide, ⟨j', hj, hjs⟩, _, Tryd.underlying9, rfl, by decide⟩
  | succ j =>
    cases j with
    | zero =>
      simp at hf hg
      obtain ⟨rfl, rfl, rfl⟩ := hg
      subst hf
      obtain ⟨j', hj, _, hjs, _⟩ := info_of info9
      exact ⟨rfl, by decide, by decide, ⟨j', hj, hjs⟩, _, Tryd.underlying9, rfl, by decide⟩
    | succ j =>
      simp at hg
theorem ok40 : TdT Tryd.prog 40 (td 40) := by
  obtain ⟨i, hi, hz, hs, hb⟩ := info_of info40
  obtain ⟨j, hj, hjz, hjs, hjb⟩ := info_of info39
  exact ⟨Tryd.underlying40, by decide, ⟨j, _, hj, hjs, hjb, hjz, rfl⟩, i, hi, hs, hz⟩
theorem ok42 : TdT Tryd.prog 42 (td 42) := by
  obtain ⟨i, hi, hz, hs, hb⟩ := info_of info42
  refine ⟨_, i, Tryd.underlying42, hi, hs, hz, rfl, by decide, by simp [Value.oneCell'], rfl, ?_⟩
  intro j f o s g hf hg
  cases j with
  | zero =>
    simp at hf hg
    obtain ⟨rfl, rfl, rfl⟩ := hg
    subst hf
    obtain ⟨j', hj, _, hjs, _⟩ := info_of info3
    exact ⟨rfl, by decide, by decide, ⟨j', hj, hjs⟩, _, Tryd.underlying3, rfl, by decide⟩
  | succ j =>
    cases j with
    | zero =>
      simp at hf hg
      obtain ⟨rfl, rfl, rfl⟩ := hg
      subst hf
      obtain ⟨j', hj, _, hjs, _⟩ := info_of info9
      exact ⟨rfl, by decide, by decide, ⟨j', hj, hjs⟩, _, Tryd.underlying9, rfl, by decide⟩
    | succ j =>
      cases j with
      | zero =>
        simp at hf hg
        obtain ⟨rfl, rfl, rfl⟩ := hg
        subst hf
        obtain ⟨j', hj, _, hjs, _⟩ := info_of info3
        exact ⟨rfl, by decide, by decide, ⟨j', hj, hjs⟩, _, Tryd.underlying3, rfl, by decide⟩
      | succ j =>
        cases j with
        | zero =>
          simp at hf hg
          obtain ⟨rfl, rfl, rfl⟩ := hg
          subst hf
          obtain ⟨j', hj, _, hjs, _⟩ := info_of info3
          exact ⟨rfl, by decide, by decide, ⟨j', hj, hjs⟩, _, Tryd.underlying3, rfl, by decide⟩
        | succ j =>
          cases j with
          | zero =>
            simp at hf hg
            obtain ⟨rfl, rfl, rfl⟩ := hg
            subst hf
            obtain ⟨j', hj, _, hjs, _⟩ := info_of info40
            exact ⟨rfl, by decide, by decide, ⟨j', hj, hjs⟩, _, Tryd.underlying40, rfl, by decide⟩
          | succ j =>
            cases j with
            | zero =>
              simp at hf hg
              obtain ⟨rfl, rfl, rfl⟩ := hg
              subst hf
              obtain ⟨j', hj, _, hjs, _⟩ := info_of info37
              exact ⟨rfl, by decide, by decide, ⟨j', hj, hjs⟩, _, Tryd.underlying37, rfl, by decide⟩
            | succ j =>
              cases j with
              | zero =>
                simp at hf hg
                obtain ⟨rfl, rfl, rfl⟩ := hg
                subst hf
                obtain ⟨j', hj, _, hjs, _⟩ := info_of info4
                exact ⟨rfl, by decide, by decide, ⟨j', hj, hjs⟩, _, Tryd.underlying4, rfl, by decide⟩
              | succ j =>
                cases j with
                | zero =>
                  simp at hf hg
                  obtain ⟨rfl, rfl, rfl⟩ := hg
                  subst hf
                  obtain ⟨j', hj, _, hjs, _⟩ := info_of info4
                  exact ⟨rfl, by decide, by decide, ⟨j', hj, hjs⟩, _, Tryd.underlying4, rfl, by decide⟩
                | succ j =>
                  cases j with
                  | zero =>
                    simp at hf hg
                    obtain ⟨rfl, rfl, rfl⟩ := hg
                    subst hf
                    obtain ⟨j', hj, _, hjs, _⟩ := info_of info4
                    exact ⟨rfl, by decide, by decide, ⟨j', hj, hjs⟩, _, Tryd.underlying4, rfl, by decide⟩
                  | succ j =>
                    cases j with
                    | zero =>
                      simp at hf hg
                      obtain ⟨rfl, rfl, rfl⟩ := hg
                      subst hf
                      obtain ⟨j', hj, _, hjs, _⟩ := info_of info3
                      exact ⟨rfl, by decide, by decide, ⟨j', hj, hjs⟩, _, Tryd.underlying3, rfl, by decide⟩
                    | succ j =>
                      cases j with
                      | zero =>
                        simp at hf hg
                        obtain ⟨rfl, rfl, rfl⟩ := hg
                        subst hf
                        obtain ⟨j', hj, _, hjs, _⟩ := info_of info9
                        exact ⟨rfl, by decide, by decide, ⟨j', hj, hjs⟩, _, Tryd.underlying9, rfl, by decide⟩
                      | succ j =>
                        cases j with
                        | zero =>
                          simp at hf hg
                          obtain ⟨rfl, rfl, rfl⟩ := hg
                          subst hf
                          obtain ⟨j', hj, _, hjs, _⟩ := info_of info9
                          exact ⟨rfl, by decide, by decide, ⟨j', hj, hjs⟩, _, Tryd.underlying9, rfl, by decide⟩
                        | succ j =>
                          cases j with
                          | zero =>
                            simp at hf hg
                            obtain ⟨rfl, rfl, rfl⟩ := hg
                            subst hf
                            obtain ⟨j', hj, _, hjs, _⟩ := info_of info9
                            exact ⟨rfl, by decide, by decide, ⟨j', hj, hjs⟩, _, Tryd.underlying9, rfl, by decide⟩
                          | succ j =>
                            cases j with
                            | zero =>
                              simp at hf hg
                              obtain ⟨rfl, rfl, rfl⟩ := hg
                              subst hf
                              obtain ⟨j', hj, _, hjs, _⟩ := info_of info3
                              exact ⟨rfl, by decide, by decide, ⟨j', hj, hjs⟩, _, Tryd.underlying3, rfl, by decide⟩
                            | succ j =>
                              cases j with
                              | zero =>
                                simp at hf hg
                                obtain ⟨rfl, rfl, rfl⟩ := hg
                                subst hf
                                obtain ⟨j', hj, _, hjs, _⟩ := info_of info4
                                exact ⟨rfl, by decide, by decide, ⟨j', hj, hjs⟩, _, Tryd.underlying4, rfl, by decide⟩
                              | succ j =>
                                cases j with
                                | zero =>
                                  simp at hf hg
                                  obtain ⟨rfl, rfl, rfl⟩ := hg
                                  subst hf
                                  obtain ⟨j', hj, _, hjs, _⟩ := info_of info4
                                  exact ⟨rfl, by decide, by decide, ⟨j', hj, hjs⟩, _, Tryd.underlying4, rfl, by decide⟩
                                | succ j =>
                                  cases j with
                                  | zero =>
                                    simp at hf hg
                                    obtain ⟨rfl, rfl, rfl⟩ := hg
                                    subst hf
                                    obtain ⟨j', hj, _, hjs, _⟩ := info_of info37
                                    exact ⟨rfl, by decide, by decide, ⟨j', hj, hjs⟩, _, Tryd.underlying37, rfl, by decide⟩
                                  | succ j =>
                                    cases j with
                                    | zero =>
                                      simp at hf hg
                                      obtain ⟨rfl, rfl, rfl⟩ := hg
                                      subst hf
                                      obtain ⟨j', hj, _, hjs, _⟩ := info_of info9
                                      exact ⟨rfl, by decide, by decide, ⟨j', hj, hjs⟩, _, Tryd.underlying9, rfl, by decide⟩
                                    | succ j =>
                                      cases j with
                                      | zero =>
                                        simp at hf hg
                                        obtain ⟨rfl, rfl, rfl⟩ := hg
                                        subst hf
                                        obtain ⟨j', hj, _, hjs, _⟩ := info_of info3
                                        exact ⟨rfl, by decide, by decide, ⟨j', hj, hjs⟩, _, Tryd.underlying3, rfl, by decide⟩
                                      | succ j =>
                                        cases j with
                                        | zero =>
                                          simp at hf hg
                                          obtain ⟨rfl, rfl, rfl⟩ := hg
                                          subst hf
                                          obtain ⟨j', hj, _, hjs, _⟩ := info_of info3
                                          exact ⟨rfl, by decide, by decide, ⟨j', hj, hjs⟩, _, Tryd.underlying3, rfl, by decide⟩
                                        | succ j =>
                                          cases j with
                                          | zero =>
                                            simp at hf hg
                                            obtain ⟨rfl, rfl, rfl⟩ := hg
                                            subst hf
                                            obtain ⟨j', hj, _, hjs, _⟩ := info_of info3
                                            exact ⟨rfl, by decide, by decide, ⟨j', hj, hjs⟩, _, Tryd.underlying3, rfl, by decide⟩
                                          | succ j =>
                                            cases j with
                                            | zero =>
                                              simp at hf hg
                                              obtain ⟨rfl, rfl, rfl⟩ := hg
                                              subst hf
                                              obtain ⟨j', hj, _, hjs, _⟩ := info_of info3
                                              exact ⟨rfl, by decide, by decide, ⟨j', hj, hjs⟩, _, Tryd.underlying3, rfl, by decide⟩
                                            | succ j =>
                                              cases j with
                                              | zero =>
                                                simp at hf hg
                                                obtain ⟨rfl, rfl, rfl⟩ := hg
                                                subst hf
                                                obtain ⟨j', hj, _, hjs, _⟩ := info_of info3
                                                exact ⟨rfl, by decide, by decide, ⟨j', hj, hjs⟩, _, Tryd.underlying3, rfl, by decide⟩
                                              | succ j =>
                                                cases j with
                                                | zero =>
                                                  simp at hf hg
                                                  obtain ⟨rfl, rfl, rfl⟩ := hg
                                                  subst hf
                                                  obtain ⟨j', hj, _, hjs, _⟩ := info_of info4
                                                  exact ⟨rfl, by decide, by decide, ⟨j', hj, hjs⟩, _, Tryd.underlying4, rfl, by decide⟩
                                                | succ j =>
                                                  cases j with
                                                  | zero =>
                                                    simp at hf hg
                                                    obtain ⟨rfl, rfl, rfl⟩ := hg
                                                    subst hf
                                                    obtain ⟨j', hj, _, hjs, _⟩ := info_of info22
                                                    exact ⟨rfl, by decide, by decide, ⟨j', hj, hjs⟩, _, Tryd.underlying22, rfl, by decide⟩
                                                  | succ j =>
                                                    cases j with
                                                    | zero =>
                                                      simp at hf hg
                                                      obtain ⟨rfl, rfl, rfl⟩ := hg
                                                      subst hf
                                                      obtain ⟨j', hj, _, hjs, _⟩ := info_of info40
                                                      exact ⟨rfl, by decide, by decide, ⟨j', hj, hjs⟩, _, Tryd.underlying40, rfl, by decide⟩
                                                    | succ j =>
                                                      cases j with
                                                      | zero =>
                                                        simp at hf hg
                                                        obtain ⟨rfl, rfl, rfl⟩ := hg
                                                        subst hf
                                                        obtain ⟨j', hj, _, hjs, _⟩ := info_of info3
                                                        exact ⟨rfl, by decide, by decide, ⟨j', hj, hjs⟩, _, Tryd.underlying3, rfl, by decide⟩
                                                      | succ j =>
                                                        cases j with
                                                        | zero =>
                                                          simp at hf hg
                                                          obtain ⟨rfl, rfl, rfl⟩ := hg
                                                          subst hf
                                                          obtain ⟨j', hj, _, hjs, _⟩ := info_of info9
                                                          exact ⟨rfl, by decide, by decide, ⟨j', hj, hjs⟩, _, Tryd.underlying9, rfl, by decide⟩
                                                        | succ j =>
                                                          cases j with
                                                          | zero =>
                                                            simp at hf hg
                                                            obtain ⟨rfl, rfl, rfl⟩ := hg
                                                            subst hf
                                                            obtain ⟨j', hj, _, hjs, _⟩ := info_of info3
                                                            exact ⟨rfl, by decide, by decide, ⟨j', hj, hjs⟩, _, Tryd.underlying3, rfl, by decide⟩
                                                          | succ j =>
                                                            cases j with
                                                            | zero =>
                                                              simp at hf hg
                                                              obtain ⟨rfl, rfl, rfl⟩ := hg
                                                              subst hf
                                                              obtain ⟨j', hj, _, hjs, _⟩ := info_of info3
                                                              exact ⟨rfl, by decide, by decide, ⟨j', hj, hjs⟩, _, Tryd.underlying3, rfl, by decide⟩
                                                            | succ j =>
                                                              simp at hg
theorem ok46 : TdT Tryd.prog 46 (td 46) := by
  obtain ⟨i, hi, hz, hs, hb⟩ := info_of info46
  exact ⟨⟨_, Tryd.underlying46, rfl, rfl⟩, i, hi, hs, hz, rfl, rfl⟩
theorem ok50 : TdT Tryd.prog 50 (td 50) := by
  obtain ⟨i, hi, hz, hs, hb⟩ := info_of info50
  refine ⟨_, i, Tryd.underlying50, hi, hs, hz, rfl, by decide, by simp [Value.oneCell'], rfl, ?_⟩
  intro j f o s g hf hg
  cases j with
  | zero =>
    simp at hf hg
    obtain ⟨rfl, rfl, rfl⟩ := hg
    subst hf
    obtain ⟨j', hj, _, hjs, _⟩ := info_of info46
    exact ⟨rfl, by decide, by decide, ⟨j', hj, hjs⟩, _, Tryd.underlying46, rfl, by decide⟩
  | succ j =>
    cases j with
    | zero =>
      simp at hf hg
      obtain ⟨rfl, rfl, rfl⟩ := hg
      subst hf
      obtain ⟨j', hj, _, hjs, _⟩ := info_of info3
      exact ⟨rfl, by decide, by decide, ⟨j', hj, hjs⟩, _, Tryd.underlying3, rfl, by decide⟩
    | succ j =>
      simp at hg
theorem ok53 : TdT Tryd.prog 53 (td 53) := by
  obtain ⟨i, hi, hz, hs, hb⟩ := info_of info53
  exact ⟨⟨_, Tryd.underlying53, rfl, ⟨_, rfl⟩⟩, i, hi, hs, hz, rfl, rfl⟩
theorem ok54 : TdT Tryd.prog 54 (td 54) := by
  obtain ⟨i, hi, hz, hs, hb⟩ := info_of info54
  exact ⟨⟨_, Tryd.underlying54, rfl, rfl⟩, i, hi, hs, hz, rfl, rfl⟩
theorem ok65 : TdT Tryd.prog 65 (td 65) := by
  obtain ⟨i, hi, hz, hs, hb⟩ := info_of info65
  exact ⟨⟨_, Tryd.underlying65, rfl, ⟨_, rfl⟩⟩, i, hi, hs, hz, rfl, rfl⟩
theorem ok71 : TdT Tryd.prog 71 (td 71) := by
  obtain ⟨i, hi, hz, hs, hb⟩ := info_of info71
  exact ⟨⟨_, Tryd.underlying71, rfl, ⟨_, rfl⟩⟩, i, hi, hs, hz, rfl, rfl⟩
theorem ok72 : TdT Tryd.prog 72 (td 72) := by
  obtain ⟨i, hi, hz, hs, hb⟩ := info_of info72
  obtain ⟨j, hj, hjz, hjs, hjb⟩ := info_of info20
  exact ⟨Tryd.underlying72, by decide, ⟨j, _, hj, hjs, hjb, hjz, rfl⟩, i, hi, hs, hz⟩
theorem ok121 : TdT Tryd.prog 121 (td 121) := by
  obtain ⟨i, hi, hz, hs, hb⟩ := info_of info121
  exact ⟨⟨_, Tryd.underlying121, rfl, ⟨_, rfl⟩⟩, i, hi, hs, hz, rfl, rfl⟩
theorem tds : ∀ t, TdT Tryd.prog t (td t) := by
  intro t
  unfold td
  split
  · exact ok1
  · exact ok2
  · exact ok3
  · exact ok4
  · exact ok5
  · exact ok6
  · exact ok8
  · exact ok9
  · exact ok20
  · exact ok22
  · exact ok26
  · exact ok34
  · exact ok35
  · exact ok37
  · exact ok39
  · exact ok40
  · exact ok42
  · exact ok46
  · exact ok50
  · exact ok53
  · exact ok54
  · exact ok65
  · exact ok71
  · exact ok72
  · exact ok121
  · trivial

def conc : Nat → Bool
  | 2 => true
  | 3 => true
  | 4 => true
  | 5 => true
  | 6 => true
  | 8 => true
  | 9 => true
  | 22 => true
  | 34 => true
  | 35 => true
  | 37 => true
  | 39 => true
  | 40 => true
  | 42 => true
  | 46 => true
  | 50 => true
  | 54 => true
  | 72 => true
  | _ => false
theorem concs : ∀ t, conc t = true → ∃ d, Tryd.prog.underlying t = some d ∧ (match d with | .interface _ => false | _ => true) = true := by
  intro t h
  unfold conc at h
  split at h
  · exact ⟨_, Tryd.underlying2, rfl⟩
  · exact ⟨_, Tryd.underlying3, rfl⟩
  · exact ⟨_, Tryd.underlying4, rfl⟩
  · exact ⟨_, Tryd.underlying5, rfl⟩
  · exact ⟨_, Tryd.underlying6, rfl⟩
  · exact ⟨_, Tryd.underlying8, rfl⟩
  · exact ⟨_, Tryd.underlying9, rfl⟩
  · exact ⟨_, Tryd.underlying22, rfl⟩
  · exact ⟨_, Tryd.underlying34, rfl⟩
  · exact ⟨_, Tryd.underlying35, rfl⟩
  · exact ⟨_, Tryd.underlying37, rfl⟩
  · exact ⟨_, Tryd.underlying39, rfl⟩
  · exact ⟨_, Tryd.underlying40, rfl⟩
  · exact ⟨_, Tryd.underlying42, rfl⟩
  · exact ⟨_, Tryd.underlying46, rfl⟩
  · exact ⟨_, Tryd.underlying50, rfl⟩
  · exact ⟨_, Tryd.underlying54, rfl⟩
  · exact ⟨_, Tryd.underlying72, rfl⟩
  · cases h

def eqs : Nat → List Nat
  | 8 => [0, 0, 1, 0]
  | 37 => [0, 0]
  | 39 => [2, 2]
  | 50 => [0, 0]
  | _ => []
theorem eq8 : Tryd.prog.eqGuardType Tryd.prog.depth 8 = false ∧ Tryd.prog.stoodInHeld 8 = false ∧ ∃ flds, Tryd.prog.underlying 8 = some (.struct flds) ∧ EqFlds Tryd.prog 0 flds.toList (eqs 8) := by
  refine ⟨by kernel_rfl, by kernel_rfl, _, Tryd.underlying8, ?_⟩
  exact ⟨rfl, by decide, ⟨_, Tryd.underlying2, trivial⟩, rfl, by decide, ⟨_, Tryd.underlying3, trivial⟩, rfl, by decide, ⟨_, Tryd.underlying4, trivial⟩, rfl, by decide, ⟨_, Tryd.underlying6, trivial⟩, trivial⟩
theorem eq37 : Tryd.prog.eqGuardType Tryd.prog.depth 37 = false ∧ Tryd.prog.stoodInHeld 37 = false ∧ ∃ flds, Tryd.prog.underlying 37 = some (.struct flds) ∧ EqFlds Tryd.prog 0 flds.toList (eqs 37) := by
  refine ⟨by kernel_rfl, by kernel_rfl, _, Tryd.underlying37, ?_⟩
  exact ⟨rfl, by decide, ⟨_, Tryd.underlying3, trivial⟩, rfl, by decide, ⟨_, Tryd.underlying3, trivial⟩, trivial⟩
theorem eq39 : Tryd.prog.eqGuardType Tryd.prog.depth 39 = false ∧ Tryd.prog.stoodInHeld 39 = false ∧ ∃ flds, Tryd.prog.underlying 39 = some (.struct flds) ∧ EqFlds Tryd.prog 0 flds.toList (eqs 39) := by
  refine ⟨by kernel_rfl, by kernel_rfl, _, Tryd.underlying39, ?_⟩
  exact ⟨rfl, by decide, ⟨_, Tryd.underlying9, trivial⟩, rfl, by decide, ⟨_, Tryd.underlying9, trivial⟩, trivial⟩
theorem eq50 : Tryd.prog.eqGuardType Tryd.prog.depth 50 = false ∧ Tryd.prog.stoodInHeld 50 = false ∧ ∃ flds, Tryd.prog.underlying 50 = some (.struct flds) ∧ EqFlds Tryd.prog 0 flds.toList (eqs 50) := by
  refine ⟨by kernel_rfl, by kernel_rfl, _, Tryd.underlying50, ?_⟩
  exact ⟨rfl, by decide, ⟨_, Tryd.underlying46, trivial⟩, rfl, by decide, ⟨_, Tryd.underlying3, trivial⟩, trivial⟩
theorem eqss : ∀ t, eqs t ≠ [] → Tryd.prog.eqGuardType Tryd.prog.depth t = false ∧ Tryd.prog.stoodInHeld t = false ∧ ∃ flds, Tryd.prog.underlying t = some (.struct flds) ∧ EqFlds Tryd.prog 0 flds.toList (eqs t) := by
  intro t h
  unfold eqs at h
  split at h
  · exact eq8
  · exact eq37
  · exact eq39
  · exact eq50
  · exact absurd rfl h

/-- The functions. -/
noncomputable def fns : Nat → Option Func
  | 3 => some Tryd.f3
  | 4 => some Tryd.f4
  | 5 => some Tryd.f5
  | 6 => some Tryd.f6
  | 7 => some Tryd.f7
  | 8 => some Tryd.f8
  | 9 => some Tryd.f9
  | 10 => some Tryd.f10
  | 11 => some Tryd.f11
  | 12 => some Tryd.f12
  | 13 => some Tryd.f13
  | 14 => some Tryd.f14
  | 15 => some Tryd.f15
  | 17 => some Tryd.f17
  | 18 => some Tryd.f18
  | 19 => some Tryd.f19
  | 20 => some Tryd.f20
  | 26 => some Tryd.f26
  | 51 => some Tryd.f51
  | 70 => some Tryd.f70
  | _ => none
theorem fnss : ∀ n fn, fns n = some fn → Tryd.prog.funcs[n]? = some fn ∧ fn.body.isSome = true ∧ (fn.name == "runtime.NumGoroutine") = false := by
  intro n fn h
  unfold fns at h
  split at h
  · cases h; exact ⟨Tryd.func3, rfl, by decide⟩
  · cases h; exact ⟨Tryd.func4, rfl, by decide⟩
  · cases h; exact ⟨Tryd.func5, rfl, by decide⟩
  · cases h; exact ⟨Tryd.func6, rfl, by decide⟩
  · cases h; exact ⟨Tryd.func7, rfl, by decide⟩
  · cases h; exact ⟨Tryd.func8, rfl, by decide⟩
  · cases h; exact ⟨Tryd.func9, rfl, by decide⟩
  · cases h; exact ⟨Tryd.func10, rfl, by decide⟩
  · cases h; exact ⟨Tryd.func11, rfl, by decide⟩
  · cases h; exact ⟨Tryd.func12, rfl, by decide⟩
  · cases h; exact ⟨Tryd.func13, rfl, by decide⟩
  · cases h; exact ⟨Tryd.func14, rfl, by decide⟩
  · cases h; exact ⟨Tryd.func15, rfl, by decide⟩
  · cases h; exact ⟨Tryd.func17, rfl, by decide⟩
  · cases h; exact ⟨Tryd.func18, rfl, by decide⟩
  · cases h; exact ⟨Tryd.func19, rfl, by decide⟩
  · cases h; exact ⟨Tryd.func20, rfl, by decide⟩
  · cases h; exact ⟨Tryd.func26, rfl, by decide⟩
  · cases h; exact ⟨Tryd.func51, rfl, by decide⟩
  · cases h; exact ⟨Tryd.func70, rfl, by decide⟩
  · cases h

/-- Slots that nothing looks at any more, at each loop's head and behind it. -/
def kl : List (List Nat × List Nat × List Nat) := [([34, 35, 36, 37, 41, 42, 43, 44, 45, 40, 46, 47, 48, 49, 50, 51, 52, 53, 54, 38, 39], [0, 3, 4, 5, 6, 7, 8, 9, 10, 11, 12, 13, 14, 15, 16, 17, 18, 19, 20, 21, 22, 23, 24, 25, 26, 27, 28, 29, 30, 31, 32, 33, 34, 35, 36, 37, 38, 39, 40, 41, 42, 43, 44, 45, 46, 47, 48, 49, 50, 51, 52, 53, 54, 55, 56, 57, 58, 59, 60, 61, 62, 63, 64, 65, 66, 67, 68, 69, 70, 71, 72, 73, 74, 75, 76, 77, 78, 79, 80, 81, 82, 83, 84, 85, 86, 87, 88, 89, 90, 91, 92, 93, 94, 95, 96, 97, 98, 99, 100, 101, 102, 103], [1, 2, 3, 4, 5, 6, 7, 8, 9, 10, 11, 12, 13, 14, 15, 16, 17, 18, 19, 20, 21, 22, 23, 24, 25, 26, 27, 28, 29, 30, 31, 32, 33, 34, 35, 36, 37, 38, 39, 40, 41, 42, 43, 44, 45, 46, 47, 48, 49, 50, 51, 52, 53, 54, 55, 56, 57, 58, 59, 60, 61, 62, 63, 64, 65, 66, 67, 68, 69, 70, 71, 72, 73, 74, 75, 76, 77, 78, 79, 80, 81, 82, 83, 84, 85, 86, 87, 88, 89, 90, 91, 92, 93, 94, 95, 96, 97, 98, 99, 100, 101, 102, 103]),
  ([61, 62, 65, 66, 8, 67, 69, 70, 72, 73, 74, 76, 77, 78, 80, 81, 83, 84, 86, 87, 88, 89, 90, 92, 93, 94, 95, 96, 98, 99, 100, 101, 102, 103, 63, 64], [0, 1, 2, 3, 4, 8, 9, 10, 11, 12, 13, 14, 15, 16, 17, 18, 19, 20, 21, 22, 23, 24, 25, 26, 27, 28, 29, 30, 31, 32, 33, 34, 35, 36, 37, 38, 39, 40, 41, 42, 43, 44, 45, 46, 47, 48, 49, 50, 51, 52, 53, 54, 55, 56, 57, 58, 59, 60, 61, 62, 63, 64, 65, 66, 67, 68, 69, 70, 71, 72, 73, 74, 75, 76, 77, 78, 79, 80, 81, 82, 83, 84, 85, 86, 87, 88, 89, 90, 91, 92, 93, 94, 95, 96, 97, 98, 99, 100, 101, 102, 103], [1, 2, 3, 4, 5, 6, 7, 8, 9, 10, 11, 12, 13, 14, 15, 16, 17, 18, 19, 20, 21, 22, 23, 24, 25, 26, 27, 28, 29, 30, 31, 32, 33, 34, 35, 36, 37, 38, 39, 40, 41, 42, 43, 44, 45, 46, 47, 48, 49, 50, 51, 52, 53, 54, 55, 56, 57, 58, 59, 60, 61, 62, 63, 64, 65, 66, 67, 68, 69, 70, 71, 72, 73, 74, 75, 76, 77, 78, 79, 80, 81, 82, 83, 84, 85, 86, 87, 88, 89, 90, 91, 92, 93, 94, 95, 96, 97, 98, 99, 100, 101, 102, 103]),
  ([11, 12, 15, 16, 17, 18, 19, 20, 21, 22, 23, 24, 25, 26, 27, 28, 29, 30, 31, 32, 33, 34, 35, 36, 37, 38, 39, 40, 41, 42, 43, 44, 45, 46, 47, 48, 49, 50, 13, 14], [1, 2, 3, 6, 7, 8, 9, 10, 11, 12, 13, 14, 15, 16, 17, 18, 19, 20, 21, 22, 23, 24, 25, 26, 27, 28, 29, 30, 31, 32, 33, 34, 35, 36, 37, 38, 39, 40, 41, 42, 43, 44, 45, 46, 47, 48, 49, 50, 51], [0, 1, 5, 6, 7, 8, 9, 10, 11, 12, 13, 14, 15, 16, 17, 18, 19, 20, 21, 22, 23, 24, 25, 26, 27, 28, 29, 30, 31, 32, 33, 34, 35, 36, 37, 38, 39, 40, 41, 42, 43, 44, 45, 46, 47, 48, 49, 50, 51]),
  ([14, 15, 16, 17, 18, 19, 20, 21, 22, 23, 24, 25, 26, 27, 28, 29, 30, 31, 32, 33, 34, 35, 36, 13], [1, 2, 3, 5, 6, 7, 8, 9, 10, 11, 14, 15, 16, 17, 18, 19, 20, 21, 22, 23, 24, 25, 26, 27, 28, 29, 30, 31, 32, 33, 34, 35, 36, 37], [0, 1, 5, 6, 7, 8, 9, 10, 11, 12, 13, 14, 15, 16, 17, 18, 19, 20, 21, 22, 23, 24, 25, 26, 27, 28, 29, 30, 31, 32, 33, 34, 35, 36, 37]),
  ([6, 7, 8, 9, 10, 11, 12, 13, 14, 15, 16, 17, 5], [1, 2, 4, 6, 7, 8, 9, 10, 11, 12, 13, 14, 15, 16, 17, 18, 19], [0, 1, 4, 5, 6, 7, 8, 9, 10, 11, 12, 13, 14, 15, 16, 17, 18, 19]),
  ([6, 7, 10, 11, 12, 13, 14, 15, 16, 17, 18, 19, 8, 9], [1, 2, 6, 7, 8, 9, 10, 11, 12, 13, 14, 15, 16, 17, 18, 19, 20], [0, 1, 3, 5, 6, 7, 8, 9, 10, 11, 12, 13, 14, 15, 16, 17, 18, 19, 20]),
  ([33, 34, 35, 5, 36, 37, 38, 39, 40, 41, 42, 43, 44, 32], [0, 1, 2, 4, 5, 6, 7, 8, 9, 10, 11, 12, 13, 14, 15, 16, 17, 18, 19, 20, 21, 22, 23, 24, 25, 26, 27, 28, 29, 33, 34, 35, 36, 37, 38, 39, 40, 41, 42, 43, 44, 45], [0, 1, 4, 5, 6, 7, 8, 9, 10, 11, 12, 13, 14, 15, 16, 17, 18, 19, 20, 21, 22, 23, 24, 25, 26, 27, 28, 29, 30, 31, 32, 33, 34, 35, 36, 37, 38, 39, 40, 41, 42, 43, 44, 45]),
  ([7, 8, 11, 12, 13, 14, 15, 16, 17, 9, 10], [1, 2, 5, 6, 7, 8, 9, 10, 11, 12, 13, 14, 15, 16, 17, 18, 19, 20, 21, 22, 23, 24, 25], [1, 4, 5, 6, 7, 8, 9, 10, 11, 12, 13, 14, 15, 16, 17, 18, 19, 20, 21, 22, 23, 24, 25]),
  ([9, 10, 11, 12, 13, 14, 15, 16, 17, 18, 19, 20, 21, 8], [1, 2, 3, 4, 5, 9, 10, 11, 12, 13, 14, 15, 16, 17, 18, 19, 20, 21], [0, 1, 2, 3, 4, 5, 6, 7, 8, 9, 10, 11, 12, 13, 14, 15, 16, 17, 18, 19, 20, 21]),
  ([11, 12, 13, 14, 15, 16, 17, 18, 19, 20, 21, 22, 23, 24, 25, 26, 27, 28, 29, 30, 31, 32, 10], [1, 2, 3, 4, 5, 6, 7, 11, 12, 13, 14, 15, 16, 17, 18, 19, 20, 21, 22, 23, 24, 25, 26, 27, 28, 29, 30, 31, 32], [0, 1, 2, 3, 4, 5, 6, 7, 8, 9, 10, 11, 12, 13, 14, 15, 16, 17, 18, 19, 20, 21, 22, 23, 24, 25, 26, 27, 28, 29, 30, 31, 32]),
  ([5, 6, 7, 8, 11, 12, 13, 14, 15, 16, 17, 9, 10], [1, 2, 5, 6, 7, 8, 9, 10, 11, 12, 13, 14, 15, 16, 17, 18], [0, 1, 4, 5, 6, 7, 8, 9, 10, 11, 12, 13, 14, 15, 16, 17, 18]),
  ([8, 9, 10, 11, 12, 13, 14, 15, 16, 7], [1, 2, 3, 5, 6, 8, 9, 10, 11, 12, 13, 14, 15, 16], [0, 1, 2, 3, 4, 5, 6, 7, 8, 9, 10, 11, 12, 13, 14, 15, 16])]
/-- The sizes of the elements of slices within a type's cells. -/
def zz : Nat → List Nat
  | 34 => [1]
  | 35 => [1]
  | 40 => [2]
  | 42 => [0, 0, 0, 0, 2, 0, 0, 0, 0, 0, 0, 0, 0, 0, 0, 0, 0, 0, 0, 0, 0, 0, 0, 0, 0, 0, 0, 2, 0, 0, 0, 0]
  | 72 => [1]
  | _ => []
/-- The table, with summaries of functions. -/
noncomputable def ctx (m : Nat → Option (List AV → Option (AV × List Blk))) : Ctx := ⟨td, conc, eqs, fns, zz, kl, m⟩
theorem ctx_ok {G : World → Prop} (m : Nat → Option (List AV → Option (AV × List Blk))) (hm : ∀ n f, m n = some f → Models Tryd.prog G n f ∧ ∃ fn, Tryd.prog.funcs[n]? = some fn ∧ fn.body.isSome = true ∧ (fn.name == "runtime.NumGoroutine") = false) : CtxOk Tryd.prog (ctx m) G :=
  ⟨TdOk.of tds concs, hm, eqss, fnss⟩
end Go.Proofs.YtalkodandfjkmaaDoor.AvT
