/- The table of types and functions of this program, for the interpreter over plain values; written by a program, proved by Lean. -/
import Derived.Test.YtnoaglgjhgnnfaaProg
import Derived.Test.YtnoaglgjhgnnfaaChecked
import Derived.Test.YtnoaglgjhgnnfaaAvM
set_option maxRecDepth 100000
set_option linter.unusedVariables false
namespace Go.Proofs.Ytnoaglgjhgnnfaa.AvT
open Go Go.RowKit Go.Proofs.Ytnoaglgjhgnnfaa.Av

/-- What a type is. -/
def td : Nat → TD
  | 1 => .one (.nilFunc)
  | 2 => .one (.int .i64 0)
  | 3 => .one (.int .i64 0)
  | 4 => .one (.bool false)
  | 5 => .one (.int .u8 0)
  | 6 => .one (.int .u8 0)
  | 9 => .one (.string ⟨#[]⟩)
  | 20 => .one (.nilIface)
  | 22 => .sl 30 32 312
  | 24 => .agg 4 [(0, 1, false), (1, 1, false), (2, 1, false), (3, 1, false)] [.slice none 0 0, .slice none 0 0, .slice none 0 0, .slice none 0 0]
  | 25 => .sl 116 2 32
  | 27 => .agg 2 [(0, 1, false), (1, 1, false)] [.int .i64 0, .int .i64 0]
  | 28 => .one (.int .u64 0)
  | 30 => .agg 32 [(0, 1, false), (1, 1, false), (2, 1, false), (3, 1, false), (4, 1, false), (5, 2, true), (7, 1, false), (8, 1, false), (9, 1, false), (10, 1, false), (11, 1, false), (12, 1, false), (13, 1, false), (14, 1, false), (15, 1, false), (16, 1, false), (17, 2, true), (19, 1, false), (20, 1, false), (21, 1, false), (22, 1, false), (23, 1, false), (24, 1, false), (25, 1, false), (26, 1, false), (27, 1, false), (28, 1, false), (29, 1, false), (30, 1, false), (31, 1, false)] [.int .i64 0, .string ⟨#[]⟩, .int .i64 0, .int .i64 0, .slice none 0 0, .int .i64 0, .int .i64 0, .bool false, .bool false, .bool false, .int .i64 0, .string ⟨#[]⟩, .string ⟨#[]⟩, .string ⟨#[]⟩, .int .i64 0, .bool false, .bool false, .int .i64 0, .int .i64 0, .string ⟨#[]⟩, .int .i64 0, .int .i64 0, .int .i64 0, .int .i64 0, .int .i64 0, .bool false, .int .u64 0, .slice none 0 0, .int .i64 0, .string ⟨#[]⟩, .int .i64 0, .int .i64 0]
  | 35 => .sl 68 42 416
  | 39 => .one (.pointer none)
  | 40 => .sl 104 1 24
  | 41 => .sl 127 1 24
  | 42 => .sl 129 1 24
  | 43 => .sl 130 1 24
  | 44 => .sl 132 1 24
  | 45 => .sl 25 1 24
  | 46 => .sl 135 1 24
  | 47 => .sl 137 1 24
  | 48 => .sl 141 1 24
  | 49 => .sl 143 1 24
  | 50 => .sl 22 1 24
  | 51 => .sl 121 1 24
  | 53 => .agg 12 [(0, 1, false), (1, 1, false), (2, 1, false), (3, 1, false), (4, 1, false), (5, 1, false), (6, 1, false), (7, 1, false), (8, 1, false), (9, 1, false), (10, 1, false), (11, 1, false)] [.slice none 0 0, .slice none 0 0, .slice none 0 0, .slice none 0 0, .slice none 0 0, .slice none 0 0, .slice none 0 0, .slice none 0 0, .slice none 0 0, .slice none 0 0, .slice none 0 0, .slice none 0 0]
  | 68 => .agg 42 [(0, 1, false), (1, 32, true), (33, 1, false), (34, 1, false), (35, 1, false), (36, 1, false), (37, 1, false), (38, 1, false), (39, 1, false), (40, 1, false), (41, 1, false)] [.int .i64 0, .int .i64 0, .string ⟨#[]⟩, .int .i64 0, .int .i64 0, .slice none 0 0, .int .i64 0, .int .i64 0, .bool false, .bool false, .bool false, .int .i64 0, .string ⟨#[]⟩, .string ⟨#[]⟩, .string ⟨#[]⟩, .int .i64 0, .bool false, .bool false, .int .i64 0, .int .i64 0, .string ⟨#[]⟩, .int .i64 0, .int .i64 0, .int .i64 0, .int .i64 0, .int .i64 0, .bool false, .int .u64 0, .slice none 0 0, .int .i64 0, .string ⟨#[]⟩, .int .i64 0, .int .i64 0, .int .i64 0, .string ⟨#[]⟩, .int .i64 0, .string ⟨#[]⟩, .int .i64 0, .bool false, .int .i64 0, .string ⟨#[]⟩, .int .i64 0]
  | 72 => .one (.pointer none)
  | 74 => .sl 78 1 8
  | 76 => .one (.nilFunc)
  | 78 => .agg 1 [(0, 1, false)] [.nilFunc]
  | 101 => .agg 39 [(0, 4, true), (4, 32, true), (36, 1, false), (37, 1, false), (38, 1, false)] [.slice none 0 0, .slice none 0 0, .slice none 0 0, .slice none 0 0, .int .i64 0, .string ⟨#[]⟩, .int .i64 0, .int .i64 0, .slice none 0 0, .int .i64 0, .int .i64 0, .bool false, .bool false, .bool false, .int .i64 0, .string ⟨#[]⟩, .string ⟨#[]⟩, .string ⟨#[]⟩, .int .i64 0, .bool false, .bool false, .int .i64 0, .int .i64 0, .string ⟨#[]⟩, .int .i64 0, .int .i64 0, .int .i64 0, .int .i64 0, .int .i64 0, .bool false, .int .u64 0, .slice none 0 0, .int .i64 0, .string ⟨#[]⟩, .int .i64 0, .int .i64 0, .slice none 0 0, .string ⟨#[]⟩, .int .i64 0]
  | 103 => .one (.nilFunc)
  | 104 => .sl 5 1 1
  | 113 => .one (.int .u64 0)
  | 116 => .agg 2 [(0, 1, false), (1, 1, false)] [.string ⟨#[]⟩, .string ⟨#[]⟩]
  | 117 => .one (.int .u64 0)
  | 121 => .sl 125 35 344
  | 123 => .agg 2 [(0, 1, false), (1, 1, false)] [.int .i64 0, .string ⟨#[]⟩]
  | 125 => .agg 35 [(0, 2, true), (2, 1, false), (3, 32, true)] [.int .i64 0, .string ⟨#[]⟩, .bool false, .int .i64 0, .string ⟨#[]⟩, .int .i64 0, .int .i64 0, .slice none 0 0, .int .i64 0, .int .i64 0, .bool false, .bool false, .bool false, .int .i64 0, .string ⟨#[]⟩, .string ⟨#[]⟩, .string ⟨#[]⟩, .int .i64 0, .bool false, .bool false, .int .i64 0, .int .i64 0, .string ⟨#[]⟩, .int .i64 0, .int .i64 0, .int .i64 0, .int .i64 0, .int .i64 0, .bool false, .int .u64 0, .slice none 0 0, .int .i64 0, .string ⟨#[]⟩, .int .i64 0, .int .i64 0]
  | 127 => .sl 9 1 16
  | 129 => .sl 3 1 8
  | 130 => .sl 28 1 8
  | 132 => .sl 4 1 1
  | 135 => .sl 123 2 24
  | 137 => .sl 139 3 32
  | 139 => .agg 3 [(0, 2, true), (2, 1, false)] [.int .i64 0, .string ⟨#[]⟩, .int .i64 0]
  | 141 => .sl 27 2 16
  | 143 => .sl 145 3 24
  | 145 => .agg 3 [(0, 1, false), (1, 1, false), (2, 1, false)] [.int .i64 0, .int .i64 0, .bool false]
  | 151 => .one (.pointer none)
  | 152 => .sl 20 1 16
  | _ => .no

theorem info1 : (Try.prog.info? 1).map (fun i => (i.zero, i.size, i.bytes)) = some (some (.nilFunc), 1, 8) := by kernel_rfl
theorem info2 : (Try.prog.info? 2).map (fun i => (i.zero, i.size, i.bytes)) = some (some (.int .i64 0), 1, 8) := by kernel_rfl
theorem info3 : (Try.prog.info? 3).map (fun i => (i.zero, i.size, i.bytes)) = some (some (.int .i64 0), 1, 8) := by kernel_rfl
theorem info4 : (Try.prog.info? 4).map (fun i => (i.zero, i.size, i.bytes)) = some (some (.bool false), 1, 1) := by kernel_rfl
theorem info5 : (Try.prog.info? 5).map (fun i => (i.zero, i.size, i.bytes)) = some (some (.int .u8 0), 1, 1) := by kernel_rfl
theorem info6 : (Try.prog.info? 6).map (fun i => (i.zero, i.size, i.bytes)) = some (some (.int .u8 0), 1, 1) := by kernel_rfl
theorem info9 : (Try.prog.info? 9).map (fun i => (i.zero, i.size, i.bytes)) = some (some (.string ⟨#[]⟩), 1, 16) := by kernel_rfl
theorem info20 : (Try.prog.info? 20).map (fun i => (i.zero, i.size, i.bytes)) = some (some (.nilIface), 1, 16) := by kernel_rfl
theorem info22 : (Try.prog.info? 22).map (fun i => (i.zero, i.size, i.bytes)) = some (some (.slice none 0 0), 1, 24) := by kernel_rfl
theorem info24 : (Try.prog.info? 24).map (fun i => (i.zero, i.size, i.bytes)) = some (some (.agg #[.slice none 0 0, .slice none 0 0, .slice none 0 0, .slice none 0 0]), 4, 96) := by kernel_rfl
theorem info25 : (Try.prog.info? 25).map (fun i => (i.zero, i.size, i.bytes)) = some (some (.slice none 0 0), 1, 24) := by kernel_rfl
theorem info27 : (Try.prog.info? 27).map (fun i => (i.zero, i.size, i.bytes)) = some (some (.agg #[.int .i64 0, .int .i64 0]), 2, 16) := by kernel_rfl
theorem info28 : (Try.prog.info? 28).map (fun i => (i.zero, i.size, i.bytes)) = some (some (.int .u64 0), 1, 8) := by kernel_rfl
theorem info30 : (Try.prog.info? 30).map (fun i => (i.zero, i.size, i.bytes)) = some (some (.agg #[.int .i64 0, .string ⟨#[]⟩, .int .i64 0, .int .i64 0, .slice none 0 0, .int .i64 0, .int .i64 0, .bool false, .bool false, .bool false, .int .i64 0, .string ⟨#[]⟩, .string ⟨#[]⟩, .string ⟨#[]⟩, .int .i64 0, .bool false, .bool false, .int .i64 0, .int .i64 0, .string ⟨#[]⟩, .int .i64 0, .int .i64 0, .int .i64 0, .int .i64 0, .int .i64 0, .bool false, .int .u64 0, .slice none 0 0, .int .i64 0, .string ⟨#[]⟩, .int .i64 0, .int .i64 0]), 32, 312) := by kernel_rfl
theorem info35 : (Try.prog.info? 35).map (fun i => (i.zero, i.size, i.bytes)) = some (some (.slice none 0 0), 1, 24) := by kernel_rfl
theorem info39 : (Try.prog.info? 39).map (fun i => (i.zero, i.size, i.bytes)) = some (some (.pointer none), 1, 8) := by kernel_rfl
theorem info40 : (Try.prog.info? 40).map (fun i => (i.zero, i.size, i.bytes)) = some (some (.slice none 0 0), 1, 24) := by kernel_rfl
theorem info41 : (Try.prog.info? 41).map (fun i => (i.zero, i.size, i.bytes)) = some (some (.slice none 0 0), 1, 24) := by kernel_rfl
theorem info42 : (Try.prog.info? 42).map (fun i => (i.zero, i.size, i.bytes)) = some (some (.slice none 0 0), 1, 24) := by kernel_rfl
theorem info43 : (Try.prog.info? 43).map (fun i => (i.zero, i.size, i.bytes)) = some (some (.slice none 0 0), 1, 24) := by kernel_rfl
theorem info44 : (Try.prog.info? 44).map (fun i => (i.zero, i.size, i.bytes)) = some (some (.slice none 0 0), 1, 24) := by kernel_rfl
theorem info45 : (Try.prog.info? 45).map (fun i => (i.zero, i.size, i.bytes)) = some (some (.slice none 0 0), 1, 24) := by kernel_rfl
theorem info46 : (Try.prog.info? 46).map (fun i => (i.zero, i.size, i.bytes)) = some (some (.slice none 0 0), 1, 24) := by kernel_rfl
theorem info47 : (Try.prog.info? 47).map (fun i => (i.zero, i.size, i.bytes)) = some (some (.slice none 0 0), 1, 24) := by kernel_rfl
theorem info48 : (Try.prog.info? 48).map (fun i => (i.zero, i.size, i.bytes)) = some (some (.slice none 0 0), 1, 24) := by kernel_rfl
theorem info49 : (Try.prog.info? 49).map (fun i => (i.zero, i.size, i.bytes)) = some (some (.slice none 0 0), 1, 24) := by kernel_rfl
theorem info50 : (Try.prog.info? 50).map (fun i => (i.zero, i.size, i.bytes)) = some (some (.slice none 0 0), 1, 24) := by kernel_rfl
theorem info51 : (Try.prog.info? 51).map (fun i => (i.zero, i.size, i.bytes)) = some (some (.slice none 0 0), 1, 24) := by kernel_rfl
theorem info53 : (Try.prog.info? 53).map (fun i => (i.zero, i.size, i.bytes)) = some (some (.agg #[.slice none 0 0, .slice none 0 0, .slice none 0 0, .slice none 0 0, .slice none 0 0, .slice none 0 0, .slice none 0 0, .slice none 0 0, .slice none 0 0, .slice none 0 0, .slice none 0 0, .slice none 0 0]), 12, 288) := by kernel_rfl
theorem info68 : (Try.prog.info? 68).map (fun i => (i.zero, i.size, i.bytes)) = some (some (.agg #[.int .i64 0, .int .i64 0, .string ⟨#[]⟩, .int .i64 0, .int .i64 0, .slice none 0 0, .int .i64 0, .int .i64 0, .bool false, .bool false, .bool false, .int .i64 0, .string ⟨#[]⟩, .string ⟨#[]⟩, .string ⟨#[]⟩, .int .i64 0, .bool false, .bool false, .int .i64 0, .int .i64 0, .string ⟨#[]⟩, .int .i64 0, .int .i64 0, .int .i64 0, .int .i64 0, .int .i64 0, .bool false, .int .u64 0, .slice none 0 0, .int .i64 0, .string ⟨#[]⟩, .int .i64 0, .int .i64 0, .int .i64 0, .string ⟨#[]⟩, .int .i64 0, .string ⟨#[]⟩, .int .i64 0, .bool false, .int .i64 0, .string ⟨#[]⟩, .int .i64 0]), 42, 416) := by kernel_rfl
theorem info72 : (Try.prog.info? 72).map (fun i => (i.zero, i.size, i.bytes)) = some (some (.pointer none), 1, 8) := by kernel_rfl
theorem info74 : (Try.prog.info? 74).map (fun i => (i.zero, i.size, i.bytes)) = some (some (.slice none 0 0), 1, 24) := by kernel_rfl
theorem info76 : (Try.prog.info? 76).map (fun i => (i.zero, i.size, i.bytes)) = some (some (.nilFunc), 1, 8) := by kernel_rfl
theorem info78 : (Try.prog.info? 78).map (fun i => (i.zero, i.size, i.bytes)) = some (some (.agg #[.nilFunc]), 1, 8) := by kernel_rfl
theorem info101 : (Try.prog.info? 101).map (fun i => (i.zero, i.size, i.bytes)) = some (some (.agg #[.slice none 0 0, .slice none 0 0, .slice none 0 0, .slice none 0 0, .int .i64 0, .string ⟨#[]⟩, .int .i64 0, .int .i64 0, .slice none 0 0, .int .i64 0, .int .i64 0, .bool false, .bool false, .bool false, .int .i64 0, .string ⟨#[]⟩, .string ⟨#[]⟩, .string ⟨#[]⟩, .int .i64 0, .bool false, .bool false, .int .i64 0, .int .i64 0, .string ⟨#[]⟩, .int .i64 0, .int .i64 0, .int .i64 0, .int .i64 0, .int .i64 0, .bool false, .int .u64 0, .slice none 0 0, .int .i64 0, .string ⟨#[]⟩, .int .i64 0, .int .i64 0, .slice none 0 0, .string ⟨#[]⟩, .int .i64 0]), 39, 456) := by kernel_rfl
theorem info103 : (Try.prog.info? 103).map (fun i => (i.zero, i.size, i.bytes)) = some (some (.nilFunc), 1, 8) := by kernel_rfl
theorem info104 : (Try.prog.info? 104).map (fun i => (i.zero, i.size, i.bytes)) = some (some (.slice none 0 0), 1, 24) := by kernel_rfl
theorem info113 : (Try.prog.info? 113).map (fun i => (i.zero, i.size, i.bytes)) = some (some (.int .u64 0), 1, 8) := by kernel_rfl
theorem info116 : (Try.prog.info? 116).map (fun i => (i.zero, i.size, i.bytes)) = some (some (.agg #[.string ⟨#[]⟩, .string ⟨#[]⟩]), 2, 32) := by kernel_rfl
theorem info117 : (Try.prog.info? 117).map (fun i => (i.zero, i.size, i.bytes)) = some (some (.int .u64 0), 1, 8) := by kernel_rfl
theorem info121 : (Try.prog.info? 121).map (fun i => (i.zero, i.size, i.bytes)) = some (some (.slice none 0 0), 1, 24) := by kernel_rfl
theorem info123 : (Try.prog.info? 123).map (fun i => (i.zero, i.size, i.bytes)) = some (some (.agg #[.int .i64 0, .string ⟨#[]⟩]), 2, 24) := by kernel_rfl
theorem info125 : (Try.prog.info? 125).map (fun i => (i.zero, i.size, i.bytes)) = some (some (.agg #[.int .i64 0, .string ⟨#[]⟩, .bool false, .int .i64 0, .string ⟨#[]⟩, .int .i64 0, .int .i64 0, .slice none 0 0, .int .i64 0, .int .i64 0, .bool false, .bool false, .bool false, .int .i64 0, .string ⟨#[]⟩, .string ⟨#[]⟩, .string ⟨#[]⟩, .int .i64 0, .bool false, .bool false, .int .i64 0, .int .i64 0, .string ⟨#[]⟩, .int .i64 0, .int .i64 0, .int .i64 0, .int .i64 0, .int .i64 0, .bool false, .int .u64 0, .slice none 0 0, .int .i64 0, .string ⟨#[]⟩, .int .i64 0, .int .i64 0]), 35, 344) := by kernel_rfl
theorem info127 : (Try.prog.info? 127).map (fun i => (i.zero, i.size, i.bytes)) = some (some (.slice none 0 0), 1, 24) := by kernel_rfl
theorem info129 : (Try.prog.info? 129).map (fun i => (i.zero, i.size, i.bytes)) = some (some (.slice none 0 0), 1, 24) := by kernel_rfl
theorem info130 : (Try.prog.info? 130).map (fun i => (i.zero, i.size, i.bytes)) = some (some (.slice none 0 0), 1, 24) := by kernel_rfl
theorem info132 : (Try.prog.info? 132).map (fun i => (i.zero, i.size, i.bytes)) = some (some (.slice none 0 0), 1, 24) := by kernel_rfl
theorem info135 : (Try.prog.info? 135).map (fun i => (i.zero, i.size, i.bytes)) = some (some (.slice none 0 0), 1, 24) := by kernel_rfl
theorem info137 : (Try.prog.info? 137).map (fun i => (i.zero, i.size, i.bytes)) = some (some (.slice none 0 0), 1, 24) := by kernel_rfl
theorem info139 : (Try.prog.info? 139).map (fun i => (i.zero, i.size, i.bytes)) = some (some (.agg #[.int .i64 0, .string ⟨#[]⟩, .int .i64 0]), 3, 32) := by kernel_rfl
theorem info141 : (Try.prog.info? 141).map (fun i => (i.zero, i.size, i.bytes)) = some (some (.slice none 0 0), 1, 24) := by kernel_rfl
theorem info143 : (Try.prog.info? 143).map (fun i => (i.zero, i.size, i.bytes)) = some (some (.slice none 0 0), 1, 24) := by kernel_rfl
theorem info145 : (Try.prog.info? 145).map (fun i => (i.zero, i.size, i.bytes)) = some (some (.agg #[.int .i64 0, .int .i64 0, .bool false]), 3, 24) := by kernel_rfl
theorem info151 : (Try.prog.info? 151).map (fun i => (i.zero, i.size, i.bytes)) = some (some (.pointer none), 1, 8) := by kernel_rfl
theorem info152 : (Try.prog.info? 152).map (fun i => (i.zero, i.size, i.bytes)) = some (some (.slice none 0 0), 1, 24) := by kernel_rfl

theorem ok1 : TdT Try.prog 1 (td 1) := by
  obtain ⟨i, hi, hz, hs, hb⟩ := info_of info1
  exact ⟨⟨_, Try.underlying1, rfl, ⟨_, _, _, rfl⟩⟩, i, hi, hs, hz, rfl, rfl⟩
theorem ok2 : TdT Try.prog 2 (td 2) := by
  obtain ⟨i, hi, hz, hs, hb⟩ := info_of info2
  exact ⟨⟨_, Try.underlying2, rfl, rfl⟩, i, hi, hs, hz, rfl, rfl⟩
theorem ok3 : TdT Try.prog 3 (td 3) := by
  obtain ⟨i, hi, hz, hs, hb⟩ := info_of info3
  exact ⟨⟨_, Try.underlying3, rfl, rfl⟩, i, hi, hs, hz, rfl, rfl⟩
theorem ok4 : TdT Try.prog 4 (td 4) := by
  obtain ⟨i, hi, hz, hs, hb⟩ := info_of info4
  exact ⟨⟨_, Try.underlying4, rfl, rfl⟩, i, hi, hs, hz, rfl, rfl⟩
theorem ok5 : TdT Try.prog 5 (td 5) := by
  obtain ⟨i, hi, hz, hs, hb⟩ := info_of info5
  exact ⟨⟨_, Try.underlying5, rfl, rfl⟩, i, hi, hs, hz, rfl, rfl⟩
theorem ok6 : TdT Try.prog 6 (td 6) := by
  obtain ⟨i, hi, hz, hs, hb⟩ := info_of info6
  exact ⟨⟨_, Try.underlying6, rfl, rfl⟩, i, hi, hs, hz, rfl, rfl⟩
theorem ok9 : TdT Try.prog 9 (td 9) := by
  obtain ⟨i, hi, hz, hs, hb⟩ := info_of info9
  exact ⟨⟨_, Try.underlying9, rfl, rfl⟩, i, hi, hs, hz, rfl, rfl⟩
theorem ok20 : TdT Try.prog 20 (td 20) := by
  obtain ⟨i, hi, hz, hs, hb⟩ := info_of info20
  exact ⟨⟨_, Try.underlying20, rfl, ⟨_, rfl⟩⟩, i, hi, hs, hz, rfl, rfl⟩
theorem ok22 : TdT Try.prog 22 (td 22) := by
  obtain ⟨i, hi, hz, hs, hb⟩ := info_of info22
  obtain ⟨j, hj, hjz, hjs, hjb⟩ := info_of info30
  exact ⟨Try.underlying22, by decide, ⟨j, _, hj, hjs, hjb, hjz, rfl⟩, i, hi, hs, hz⟩
theorem ok24 : TdT Try.prog 24 (td 24) := by
  obtain ⟨i, hi, hz, hs, hb⟩ := info_of info24
  refine ⟨_, i, Try.underlying24, hi, hs, hz, rfl, by decide, by simp [Value.oneCell'], rfl, ?_⟩
  intro j f o s g hf hg
  cases j with
  | zero =>
    simp at hf hg
    obtain ⟨rfl, rfl, rfl⟩ := hg
    subst hf
    obtain ⟨j', hj, _, hjs, _⟩ := info_of info22
    exact ⟨rfl, by decide, by decide, ⟨j', hj, hjs⟩, _, Try.underlying22, rfl, by decide⟩
  | succ j =>
    cases j with
    | zero =>
      simp at hf hg
      obtain ⟨rfl, rfl, rfl⟩ := hg
      subst hf
      obtain ⟨j', hj, _, hjs, _⟩ := info_of info22
      exact ⟨rfl, by decide, by decide, ⟨j', hj, hjs⟩, _, Try.underlying22, rfl, by decide⟩
    | succ j =>
      cases j with
      | zero =>
        simp at hf hg
        obtain ⟨rfl, rfl, rfl⟩ := hg
        subst hf
        obtain ⟨j', hj, _, hjs, _⟩ := info_of info22
        exact ⟨rfl, by decide, by decide, ⟨j', hj, hjs⟩, _, Try.underlying22, rfl, by decide⟩
      | succ j =>
        cases j with
        | zero =>
          simp at hf hg
          obtain ⟨rfl, rfl, rfl⟩ := hg
          subst hf
          obtain ⟨j', hj, _, hjs, _⟩ := info_of info22
          exact ⟨rfl, by decide, by decide, ⟨j', hj, hjs⟩, _, Try.underlying22, rfl, by decide⟩
        | succ j =>
          simp at hg
theorem ok25 : TdT Try.prog 25 (td 25) := by
  obtain ⟨i, hi, hz, hs, hb⟩ := info_of info25
  obtain ⟨j, hj, hjz, hjs, hjb⟩ := info_of info116
  exact ⟨Try.underlying25, by decide, ⟨j, _, hj, hjs, hjb, hjz, rfl⟩, i, hi, hs, hz⟩
theorem ok27 : TdT Try.prog 27 (td 27) := by
  obtain ⟨i, hi, hz, hs, hb⟩ := info_of info27
  refine ⟨_, i, Try.underlying27, hi, hs, hz, rfl, by decide, by simp [Value.oneCell'], rfl, ?_⟩
  intro j f o s g hf hg
  cases j with
  | zero =>
    simp at hf hg
    obtain ⟨rfl, rfl, rfl⟩ := hg
    subst hf
    obtain ⟨j', hj, _, hjs, _⟩ := info_of info3
    exact ⟨rfl, by decide, by decide, ⟨j', hj, hjs⟩, _, Try.underlying3, rfl, by decide⟩
  | succ j =>
    cases j with
    | zero =>
      simp at hf hg
      obtain ⟨rfl, rfl, rfl⟩ := hg
      subst hf
      obtain ⟨j', hj, _, hjs, _⟩ := info_of info3
      exact ⟨rfl, by decide, by decide, ⟨j', hj, hjs⟩, _, Try.underlying3, rfl, by decide⟩
    | succ j =>
      simp at hg
theorem ok28 : TdT Try.prog 28 (td 28) := by
  obtain ⟨i, hi, hz, hs, hb⟩ := info_of info28
  exact ⟨⟨_, Try.underlying28, rfl, rfl⟩, i, hi, hs, hz, rfl, rfl⟩
theorem ok30 : TdT Try.prog 30 (td 30) := by
  obtain ⟨i, hi, hz, hs, hb⟩ := info_of info30
  refine ⟨_, i, Try.underlying30, hi, hs, hz, rfl, by decide, by simp [Value.oneCell'], rfl, ?_⟩
  intro j f o s g hf hg
  cases j with
  | zero =>
    simp at hf hg
    obtain ⟨rfl, rfl, rfl⟩ := hg
    subst hf
    obtain ⟨j', hj, _, hjs, _⟩ := info_of info3
    exact ⟨rfl, by decide, by decide, ⟨j', hj, hjs⟩, _, Try.underlying3, rfl, by decide⟩
  | succ j =>
    cases j with
    | zero =>
      simp at hf hg
      obtain ⟨rfl, rfl, rfl⟩ := hg
      subst hf
      obtain ⟨j', hj, _, hjs, _⟩ := info_of info9
      exact ⟨rfl, by decide, by decide, ⟨j', hj, hjs⟩, _, Try.underlying9, rfl, by decide⟩
    | succ j =>
      cases j with
      | zero =>
        simp at hf hg
        obtain ⟨rfl, rfl, rfl⟩ := hg
        subst hf
        obtain ⟨j', hj, _, hjs, _⟩ := info_of info3
        exact ⟨rfl, by decide, by decide, ⟨j', hj, hjs⟩, _, Try.underlying3, rfl, by decide⟩
      | succ j =>
        cases j with
        | zero =>
          simp at hf hg
          obtain ⟨rfl, rfl, rfl⟩ := hg
          subst hf
          obtain ⟨j', hj, _, hjs, _⟩ := info_of info3
          exact ⟨rfl, by decide, by decide, ⟨j', hj, hjs⟩, _, Try.underlying3, rfl, by decide⟩
        | succ j =>
          cases j with
          | zero =>
            simp at hf hg
            obtain ⟨rfl, rfl, rfl⟩ := hg
            subst hf
            obtain ⟨j', hj, _, hjs, _⟩ := info_of info25
            exact ⟨rfl, by decide, by decide, ⟨j', hj, hjs⟩, _, Try.underlying25, rfl, by decide⟩
          | succ j =>
            cases j with
            | zero =>
              simp at hf hg
              obtain ⟨rfl, rfl, rfl⟩ := hg
              subst hf
              obtain ⟨j', hj, _, hjs, _⟩ := info_of info27
              exact ⟨rfl, by decide, by decide, ⟨j', hj, hjs⟩, _, Try.underlying27, rfl, by decide⟩
            | succ j =>
              cases j with
              | zero =>
                simp at hf hg
                obtain ⟨rfl, rfl, rfl⟩ := hg
                subst hf
                obtain ⟨j', hj, _, hjs, _⟩ := info_of info4
                exact ⟨rfl, by decide, by decide, ⟨j', hj, hjs⟩, _, Try.underlying4, rfl, by decide⟩
              | succ j =>
                cases j with
                | zero =>
                  simp at hf hg
                  obtain ⟨rfl, rfl, rfl⟩ := hg
                  subst hf
                  obtain ⟨j', hj, _, hjs, _⟩ := info_of info4
                  exact ⟨rfl, by decide, by decide, ⟨j', hj, hjs⟩, _, Try.underlying4, rfl, by decide⟩
                | succ j =>
                  cases j with
                  | zero =>
                    simp at hf hg
                    obtain ⟨rfl, rfl, rfl⟩ := hg
                    subst hf
                    obtain ⟨j', hj, _, hjs, _⟩ := info_of info4
                    exact ⟨rfl, by decide, by decide, ⟨j', hj, hjs⟩, _, Try.underlying4, rfl, by decide⟩
                  | succ j =>
                    cases j with
                    | zero =>
                      simp at hf hg
                      obtain ⟨rfl, rfl, rfl⟩ := hg
                      subst hf
                      obtain ⟨j', hj, _, hjs, _⟩ := info_of info3
                      exact ⟨rfl, by decide, by decide, ⟨j', hj, hjs⟩, _, Try.underlying3, rfl, by decide⟩
                    | succ j =>
                      cases j with
                      | zero =>
                        simp at hf hg
                        obtain ⟨rfl, rfl, rfl⟩ := hg
                        subst hf
                        obtain ⟨j', hj, _, hjs, _⟩ := info_of info9
                        exact ⟨rfl, by decide, by decide, ⟨j', hj, hjs⟩, _, Try.underlying9, rfl, by decide⟩
                      | succ j =>
                        cases j with
                        | zero =>
                          simp at hf hg
                          obtain ⟨rfl, rfl, rfl⟩ := hg
                          subst hf
                          obtain ⟨j', hj, _, hjs, _⟩ := info_of info9
                          exact ⟨rfl, by decide, by decide, ⟨j', hj, hjs⟩, _, Try.underlying9, rfl, by decide⟩
                        | succ j =>
                          cases j with
                          | zero =>
                            simp at hf hg
                            obtain ⟨rfl, rfl, rfl⟩ := hg
                            subst hf
                            obtain ⟨j', hj, _, hjs, _⟩ := info_of info9
                            exact ⟨rfl, by decide, by decide, ⟨j', hj, hjs⟩, _, Try.underlying9, rfl, by decide⟩
                          | succ j =>
                            cases j with
                            | zero =>
                              simp at hf hg
                              obtain ⟨rfl, rfl, rfl⟩ := hg
                              subst hf
                              obtain ⟨j', hj, _, hjs, _⟩ := info_of info3
                              exact ⟨rfl, by decide, by decide, ⟨j', hj, hjs⟩, _, Try.underlying3, rfl, by decide⟩
                            | succ j =>
                              cases j with
                              | zero =>
                                simp at hf hg
                                obtain ⟨rfl, rfl, rfl⟩ := hg
                                subst hf
                                obtain ⟨j', hj, _, hjs, _⟩ := info_of info4
                                exact ⟨rfl, by decide, by decide, ⟨j', hj, hjs⟩, _, Try.underlying4, rfl, by decide⟩
                              | succ j =>
                                cases j with
                                | zero =>
                                  simp at hf hg
                                  obtain ⟨rfl, rfl, rfl⟩ := hg
                                  subst hf
                                  obtain ⟨j', hj, _, hjs, _⟩ := info_of info4
                                  exact ⟨rfl, by decide, by decide, ⟨j', hj, hjs⟩, _, Try.underlying4, rfl, by decide⟩
                                | succ j =>
                                  cases j with
                                  | zero =>
                                    simp at hf hg
                                    obtain ⟨rfl, rfl, rfl⟩ := hg
                                    subst hf
                                    obtain ⟨j', hj, _, hjs, _⟩ := info_of info27
                                    exact ⟨rfl, by decide, by decide, ⟨j', hj, hjs⟩, _, Try.underlying27, rfl, by decide⟩
                                  | succ j =>
                                    cases j with
                                    | zero =>
                                      simp at hf hg
                                      obtain ⟨rfl, rfl, rfl⟩ := hg
                                      subst hf
                                      obtain ⟨j', hj, _, hjs, _⟩ := info_of info9
                                      exact ⟨rfl, by decide, by decide, ⟨j', hj, hjs⟩, _, Try.underlying9, rfl, by decide⟩
                                    | succ j =>
                                      cases j with
                                      | zero =>
                                        simp at hf hg
                                        obtain ⟨rfl, rfl, rfl⟩ := hg
                                        subst hf
                                        obtain ⟨j', hj, _, hjs, _⟩ := info_of info3
                                        exact ⟨rfl, by decide, by decide, ⟨j', hj, hjs⟩, _, Try.underlying3, rfl, by decide⟩
                                      | succ j =>
                                        cases j with
                                        | zero =>
                                          simp at hf hg
                                          obtain ⟨rfl, rfl, rfl⟩ := hg
                                          subst hf
                                          obtain ⟨j', hj, _, hjs, _⟩ := info_of info3
                                          exact ⟨rfl, by decide, by decide, ⟨j', hj, hjs⟩, _, Try.underlying3, rfl, by decide⟩
                                        | succ j =>
                                          cases j with
                                          | zero =>
                                            simp at hf hg
                                            obtain ⟨rfl, rfl, rfl⟩ := hg
                                            subst hf
                                            obtain ⟨j', hj, _, hjs, _⟩ := info_of info3
                                            exact ⟨rfl, by decide, by decide, ⟨j', hj, hjs⟩, _, Try.underlying3, rfl, by decide⟩
                                          | succ j =>
                                            cases j with
                                            | zero =>
                                              simp at hf hg
                                              obtain ⟨rfl, rfl, rfl⟩ := hg
                                              subst hf
                                              obtain ⟨j', hj, _, hjs, _⟩ := info_of info3
                                              exact ⟨rfl, by decide, by decide, ⟨j', hj, hjs⟩, _, Try.underlying3, rfl, by decide⟩
                                            | succ j =>
                                              cases j with
                                              | zero =>
                                                simp at hf hg
                                                obtain ⟨rfl, rfl, rfl⟩ := hg
                                                subst hf
                                                obtain ⟨j', hj, _, hjs, _⟩ := info_of info3
                                                exact ⟨rfl, by decide, by decide, ⟨j', hj, hjs⟩, _, Try.underlying3, rfl, by decide⟩
                                              | succ j =>
                                                cases j with
                                                | zero =>
                                                  simp at hf hg
                                                  obtain ⟨rfl, rfl, rfl⟩ := hg
                                                  subst hf
                                                  obtain ⟨j', hj, _, hjs, _⟩ := info_of info4
                                                  exact ⟨rfl, by decide, by decide, ⟨j', hj, hjs⟩, _, Try.underlying4, rfl, by decide⟩
                                                | succ j =>
                                                  cases j with
                                                  | zero =>
                                                    simp at hf hg
                                                    obtain ⟨rfl, rfl, rfl⟩ := hg
                                                    subst hf
                                                    obtain ⟨j', hj, _, hjs, _⟩ := info_of info28
                                                    exact ⟨rfl, by decide, by decide, ⟨j', hj, hjs⟩, _, Try.underlying28, rfl, by decide⟩
                                                  | succ j =>
                                                    cases j with
                                                    | zero =>
                                                      simp at hf hg
                                                      obtain ⟨rfl, rfl, rfl⟩ := hg
                                                      subst hf
                                                      obtain ⟨j', hj, _, hjs, _⟩ := info_of info25
                                                      exact ⟨rfl, by decide, by decide, ⟨j', hj, hjs⟩, _, Try.underlying25, rfl, by decide⟩
                                                    | succ j =>
                                                      cases j with
                                                      | zero =>
                                                        simp at hf hg
                                                        obtain ⟨rfl, rfl, rfl⟩ := hg
                                                        subst hf
                                                        obtain ⟨j', hj, _, hjs, _⟩ := info_of info3
                                                        exact ⟨rfl, by decide, by decide, ⟨j', hj, hjs⟩, _, Try.underlying3, rfl, by decide⟩
                                                      | succ j =>
                                                        cases j with
                                                        | zero =>
                                                          simp at hf hg
                                                          obtain ⟨rfl, rfl, rfl⟩ := hg
                                                          subst hf
                                                          obtain ⟨j', hj, _, hjs, _⟩ := info_of info9
                                                          exact ⟨rfl, by decide, by decide, ⟨j', hj, hjs⟩, _, Try.underlying9, rfl, by decide⟩
                                                        | succ j =>
                                                          cases j with
                                                          | zero =>
                                                            simp at hf hg
                                                            obtain ⟨rfl, rfl, rfl⟩ := hg
                                                            subst hf
                                                            obtain ⟨j', hj, _, hjs, _⟩ := info_of info3
                                                            exact ⟨rfl, by decide, by decide, ⟨j', hj, hjs⟩, _, Try.underlying3, rfl, by decide⟩
                                                          | succ j =>
                                                            cases j with
                                                            | zero =>
                                                              simp at hf hg
                                                              obtain ⟨rfl, rfl, rfl⟩ := hg
                                                              subst hf
                                                              obtain ⟨j', hj, _, hjs, _⟩ := info_of info3
                                                              exact ⟨rfl, by decide, by decide, ⟨j', hj, hjs⟩, _, Try.underlying3, rfl, by decide⟩
                                                            | succ j =>
                                                              simp at hg
theorem ok35 : TdT Try.prog 35 (td 35) := by
  obtain ⟨i, hi, hz, hs, hb⟩ := info_of info35
  obtain ⟨j, hj, hjz, hjs, hjb⟩ := info_of info68
  exact ⟨Try.underlying35, by decide, ⟨j, _, hj, hjs, hjb, hjz, rfl⟩, i, hi, hs, hz⟩
theorem ok39 : TdT Try.prog 39 (td 39) := by
  obtain ⟨i, hi, hz, hs, hb⟩ := info_of info39
  exact ⟨⟨_, Try.underlying39, rfl, ⟨_, rfl⟩⟩, i, hi, hs, hz, rfl, rfl⟩
theorem ok40 : TdT Try.prog 40 (td 40) := by
  obtain ⟨i, hi, hz, hs, hb⟩ := info_of info40
  obtain ⟨j, hj, hjz, hjs, hjb⟩ := info_of info104
  exact ⟨Try.underlying40, by decide, ⟨j, _, hj, hjs, hjb, hjz, rfl⟩, i, hi, hs, hz⟩
theorem ok41 : TdT Try.prog 41 (td 41) := by
  obtain ⟨i, hi, hz, hs, hb⟩ := info_of info41
  obtain ⟨j, hj, hjz, hjs, hjb⟩ := info_of info127
  exact ⟨Try.underlying41, by decide, ⟨j, _, hj, hjs, hjb, hjz, rfl⟩, i, hi, hs, hz⟩
theorem ok42 : TdT Try.prog 42 (td 42) := by
  obtain ⟨i, hi, hz, hs, hb⟩ := info_of info42
  obtain ⟨j, hj, hjz, hjs, hjb⟩ := info_of info129
  exact ⟨Try.underlying42, by decide, ⟨j, _, hj, hjs, hjb, hjz, rfl⟩, i, hi, hs, hz⟩
theorem ok43 : TdT Try.prog 43 (td 43) := by
  obtain ⟨i, hi, hz, hs, hb⟩ := info_of info43
  obtain ⟨j, hj, hjz, hjs, hjb⟩ := info_of info130
  exact ⟨Try.underlying43, by decide, ⟨j, _, hj, hjs, hjb, hjz, rfl⟩, i, hi, hs, hz⟩
theorem ok44 : TdT Try.prog 44 (td 44) := by
  obtain ⟨i, hi, hz, hs, hb⟩ := info_of info44
  obtain ⟨j, hj, hjz, hjs, hjb⟩ := info_of info132
  exact ⟨Try.underlying44, by decide, ⟨j, _, hj, hjs, hjb, hjz, rfl⟩, i, hi, hs, hz⟩
theorem ok45 : TdT Try.prog 45 (td 45) := by
  obtain ⟨i, hi, hz, hs, hb⟩ := info_of info45
  obtain ⟨j, hj, hjz, hjs, hjb⟩ := info_of info25
  exact ⟨Try.underlying45, by decide, ⟨j, _, hj, hjs, hjb, hjz, rfl⟩, i, hi, hs, hz⟩
theorem ok46 : TdT Try.prog 46 (td 46) := by
  obtain ⟨i, hi, hz, hs, hb⟩ := info_of info46
  obtain ⟨j, hj, hjz, hjs, hjb⟩ := info_of info135
  exact ⟨Try.underlying46, by decide, ⟨j, _, hj, hjs, hjb, hjz, rfl⟩, i, hi, hs, hz⟩
theorem ok47 : TdT Try.prog 47 (td 47) := by
  obtain ⟨i, hi, hz, hs, hb⟩ := info_of info47
  obtain ⟨j, hj, hjz, hjs, hjb⟩ := info_of info137
  exact ⟨Try.underlying47, by decide, ⟨j, _, hj, hjs, hjb, hjz, rfl⟩, i, hi, hs, hz⟩
theorem ok48 : TdT Try.prog 48 (td 48) := by
  obtain ⟨i, hi, hz, hs, hb⟩ := info_of info48
  obtain ⟨j, hj, hjz, hjs, hjb⟩ := info_of info141
  exact ⟨Try.underlying48, by decide, ⟨j, _, hj, hjs, hjb, hjz, rfl⟩, i, hi, hs, hz⟩
theorem ok49 : TdT Try.prog 49 (td 49) := by
  obtain ⟨i, hi, hz, hs, hb⟩ := info_of info49
  obtain ⟨j, hj, hjz, hjs, hjb⟩ := info_of info143
  exact ⟨Try.underlying49, by decide, ⟨j, _, hj, hjs, hjb, hjz, rfl⟩, i, hi, hs, hz⟩
theorem ok50 : TdT Try.prog 50 (td 50) := by
  obtain ⟨i, hi, hz, hs, hb⟩ := info_of info50
  obtain ⟨j, hj, hjz, hjs, hjb⟩ := info_of info22
  exact ⟨Try.underlying50, by decide, ⟨j, _, hj, hjs, hjb, hjz, rfl⟩, i, hi, hs, hz⟩
theorem ok51 : TdT Try.prog 51 (td 51) := by
  obtain ⟨i, hi, hz, hs, hb⟩ := info_of info51
  obtain ⟨j, hj, hjz, hjs, hjb⟩ := info_of info121
  exact ⟨Try.underlying51, by decide, ⟨j, _, hj, hjs, hjb, hjz, rfl⟩, i, hi, hs, hz⟩
theorem ok53 : TdT Try.prog 53 (td 53) := by
  obtain ⟨i, hi, hz, hs, hb⟩ := info_of info53
  refine ⟨_, i, Try.underlying53, hi, hs, hz, rfl, by decide, by simp [Value.oneCell'], rfl, ?_⟩
  intro j f o s g hf hg
  cases j with
  | zero =>
    simp at hf hg
    obtain ⟨rfl, rfl, rfl⟩ := hg
    subst hf
    obtain ⟨j', hj, _, hjs, _⟩ := info_of info40
    exact ⟨rfl, by decide, by decide, ⟨j', hj, hjs⟩, _, Try.underlying40, rfl, by decide⟩
  | succ j =>
    cases j with
    | zero =>
      simp at hf hg
      obtain ⟨rfl, rfl, rfl⟩ := hg
      subst hf
      obtain ⟨j', hj, _, hjs, _⟩ := info_of info41
      exact ⟨rfl, by decide, by decide, ⟨j', hj, hjs⟩, _, Try.underlying41, rfl, by decide⟩
    | succ j =>
      cases j with
      | zero =>
        simp at hf hg
        obtain ⟨rfl, rfl, rfl⟩ := hg
        subst hf
        obtain ⟨j', hj, _, hjs, _⟩ := info_of info42
        exact ⟨rfl, by decide, by decide, ⟨j', hj, hjs⟩, _, Try.underlying42, rfl, by decide⟩
      | succ j =>
        cases j with
        | zero =>
          simp at hf hg
          obtain ⟨rfl, rfl, rfl⟩ := hg
          subst hf
          obtain ⟨j', hj, _, hjs, _⟩ := info_of info43
          exact ⟨rfl, by decide, by decide, ⟨j', hj, hjs⟩, _, Try.underlying43, rfl, by decide⟩
        | succ j =>
          cases j with
          | zero =>
            simp at hf hg
            obtain ⟨rfl, rfl, rfl⟩ := hg
            subst hf
            obtain ⟨j', hj, _, hjs, _⟩ := info_of info44
            exact ⟨rfl, by decide, by decide, ⟨j', hj, hjs⟩, _, Try.underlying44, rfl, by decide⟩
          | succ j =>
            cases j with
            | zero =>
              simp at hf hg
              obtain ⟨rfl, rfl, rfl⟩ := hg
              subst hf
              obtain ⟨j', hj, _, hjs, _⟩ := info_of info45
              exact ⟨rfl, by decide, by decide, ⟨j', hj, hjs⟩, _, Try.underlying45, rfl, by decide⟩
            | succ j =>
              cases j with
              | zero =>
                simp at hf hg
                obtain ⟨rfl, rfl, rfl⟩ := hg
                subst hf
                obtain ⟨j', hj, _, hjs, _⟩ := info_of info46
                exact ⟨rfl, by decide, by decide, ⟨j', hj, hjs⟩, _, Try.underlying46, rfl, by decide⟩
              | succ j =>
                cases j with
                | zero =>
                  simp at hf hg
                  obtain ⟨rfl, rfl, rfl⟩ := hg
                  subst hf
                  obtain ⟨j', hj, _, hjs, _⟩ := info_of info47
                  exact ⟨rfl, by decide, by decide, ⟨j', hj, hjs⟩, _, Try.underlying47, rfl, by decide⟩
                | succ j =>
                  cases j with
                  | zero =>
                    simp at hf hg
                    obtain ⟨rfl, rfl, rfl⟩ := hg
                    subst hf
                    obtain ⟨j', hj, _, hjs, _⟩ := info_of info48
                    exact ⟨rfl, by decide, by decide, ⟨j', hj, hjs⟩, _, Try.underlying48, rfl, by decide⟩
                  | succ j =>
                    cases j with
                    | zero =>
                      simp at hf hg
                      obtain ⟨rfl, rfl, rfl⟩ := hg
                      subst hf
                      obtain ⟨j', hj, _, hjs, _⟩ := info_of info49
                      exact ⟨rfl, by decide, by decide, ⟨j', hj, hjs⟩, _, Try.underlying49, rfl, by decide⟩
                    | succ j =>
                      cases j with
                      | zero =>
                        simp at hf hg
                        obtain ⟨rfl, rfl, rfl⟩ := hg
                        subst hf
                        obtain ⟨j', hj, _, hjs, _⟩ := info_of info50
                        exact ⟨rfl, by decide, by decide, ⟨j', hj, hjs⟩, _, Try.underlying50, rfl, by decide⟩
                      | succ j =>
                        cases j with
                        | zero =>
                          simp at hf hg
                          obtain ⟨rfl, rfl, rfl⟩ := hg
                          subst hf
                          obtain ⟨j', hj, _, hjs, _⟩ := info_of info51
                          exact ⟨rfl, by decide, by decide, ⟨j', hj, hjs⟩, _, Try.underlying51, rfl, by decide⟩
                        | succ j =>
                          simp at hg
theorem ok68 : TdT Try.prog 68 (td 68) := by
  obtain ⟨i, hi, hz, hs, hb⟩ := info_of info68
  refine ⟨_, i, Try.underlying68, hi, hs, hz, rfl, by decide, by simp [Value.oneCell'], rfl, ?_⟩
  intro j f o s g hf hg
  cases j with
  | zero =>
    simp at hf hg
    obtain ⟨rfl, rfl, rfl⟩ := hg
    subst hf
    obtain ⟨j', hj, _, hjs, _⟩ := info_of info3
    exact ⟨rfl, by decide, by decide, ⟨j', hj, hjs⟩, _, Try.underlying3, rfl, by decide⟩
  | succ j =>
    cases j with
    | zero =>
      simp at hf hg
      obtain ⟨rfl, rfl, rfl⟩ := hg
      subst hf
      obtain ⟨j', hj, _, hjs, _⟩ := info_of info30
      exact ⟨rfl, by decide, by decide, ⟨j', hj, hjs⟩, _, Try.underlying30, rfl, by decide⟩
    | succ j =>
      cases j with
      | zero =>
        simp at hf hg
        obtain ⟨rfl, rfl, rfl⟩ := hg
        subst hf
        obtain ⟨j', hj, _, hjs, _⟩ := info_of info3
        exact ⟨rfl, by decide, by decide, ⟨j', hj, hjs⟩, _, Try.underlying3, rfl, by decide⟩
      | succ j =>
        cases j with
        | zero =>
          simp at hf hg
          obtain ⟨rfl, rfl, rfl⟩ := hg
          subst hf
          obtain ⟨j', hj, _, hjs, _⟩ := info_of info9
          exact ⟨rfl, by decide, by decide, ⟨j', hj, hjs⟩, _, Try.underlying9, rfl, by decide⟩
        | succ j =>
          cases j with
          | zero =>
            simp at hf hg
            obtain ⟨rfl, rfl, rfl⟩ := hg
            subst hf
            obtain ⟨j', hj, _, hjs, _⟩ := info_of info3
            exact ⟨rfl, by decide, by decide, ⟨j', hj, hjs⟩, _, Try.underlying3, rfl, by decide⟩
          | succ j =>
            cases j with
            | zero =>
              simp at hf hg
              obtain ⟨rfl, rfl, rfl⟩ := hg
              subst hf
              obtain ⟨j', hj, _, hjs, _⟩ := info_of info9
              exact ⟨rfl, by decide, by decide, ⟨j', hj, hjs⟩, _, Try.underlying9, rfl, by decide⟩
            | succ j =>
              cases j with
              | zero =>
                simp at hf hg
                obtain ⟨rfl, rfl, rfl⟩ := hg
                subst hf
                obtain ⟨j', hj, _, hjs, _⟩ := info_of info3
                exact ⟨rfl, by decide, by decide, ⟨j', hj, hjs⟩, _, Try.underlying3, rfl, by decide⟩
              | succ j =>
                cases j with
                | zero =>
                  simp at hf hg
                  obtain ⟨rfl, rfl, rfl⟩ := hg
                  subst hf
                  obtain ⟨j', hj, _, hjs, _⟩ := info_of info4
                  exact ⟨rfl, by decide, by decide, ⟨j', hj, hjs⟩, _, Try.underlying4, rfl, by decide⟩
                | succ j =>
                  cases j with
                  | zero =>
                    simp at hf hg
                    obtain ⟨rfl, rfl, rfl⟩ := hg
                    subst hf
                    obtain ⟨j', hj, _, hjs, _⟩ := info_of info3
                    exact ⟨rfl, by decide, by decide, ⟨j', hj, hjs⟩, _, Try.underlying3, rfl, by decide⟩
                  | succ j =>
                    cases j with
                    | zero =>
                      simp at hf hg
                      obtain ⟨rfl, rfl, rfl⟩ := hg
                      subst hf
                      obtain ⟨j', hj, _, hjs, _⟩ := info_of info9
                      exact ⟨rfl, by decide, by decide, ⟨j', hj, hjs⟩, _, Try.underlying9, rfl, by decide⟩
                    | succ j =>
                      cases j with
                      | zero =>
                        simp at hf hg
                        obtain ⟨rfl, rfl, rfl⟩ := hg
                        subst hf
                        obtain ⟨j', hj, _, hjs, _⟩ := info_of info3
                        exact ⟨rfl, by decide, by decide, ⟨j', hj, hjs⟩, _, Try.underlying3, rfl, by decide⟩
                      | succ j =>
                        simp at hg
theorem ok72 : TdT Try.prog 72 (td 72) := by
  obtain ⟨i, hi, hz, hs, hb⟩ := info_of info72
  exact ⟨⟨_, Try.underlying72, rfl, ⟨_, rfl⟩⟩, i, hi, hs, hz, rfl, rfl⟩
theorem ok74 : TdT Try.prog 74 (td 74) := by
  obtain ⟨i, hi, hz, hs, hb⟩ := info_of info74
  obtain ⟨j, hj, hjz, hjs, hjb⟩ := info_of info78
  exact ⟨Try.underlying74, by decide, ⟨j, _, hj, hjs, hjb, hjz, rfl⟩, i, hi, hs, hz⟩
theorem ok76 : TdT Try.prog 76 (td 76) := by
  obtain ⟨i, hi, hz, hs, hb⟩ := info_of info76
  exact ⟨⟨_, Try.underlying76, rfl, ⟨_, _, _, rfl⟩⟩, i, hi, hs, hz, rfl, rfl⟩
theorem ok78 : TdT Try.prog 78 (td 78) := by
  obtain ⟨i, hi, hz, hs, hb⟩ := info_of info78
  refine ⟨_, i, Try.underlying78, hi, hs, hz, rfl, by decide, by simp [Value.oneCell'], rfl, ?_⟩
  intro j f o s g hf hg
  cases j with
  | zero =>
    simp at hf hg
    obtain ⟨rfl, rfl, rfl⟩ := hg
    subst hf
    obtain ⟨j', hj, _, hjs, _⟩ := info_of info76
    exact ⟨rfl, by decide, by decide, ⟨j', hj, hjs⟩, _, Try.underlying76, rfl, by decide⟩
  | succ j =>
    simp at hg
theorem ok101 : TdT Try.prog 101 (td 101) := by
  obtain ⟨i, hi, hz, hs, hb⟩ := info_of info101
  refine ⟨_, i, Try.underlying101, hi, hs, hz, rfl, by decide, by simp [Value.oneCell'], rfl, ?_⟩
  intro j f o s g hf hg
  cases j with
  | zero =>
    simp at hf hg
    obtain ⟨rfl, rfl, rfl⟩ := hg
    subst hf
    obtain ⟨j', hj, _, hjs, _⟩ := info_of info24
    exact ⟨rfl, by decide, by decide, ⟨j', hj, hjs⟩, _, Try.underlying24, rfl, by decide⟩
  | succ j =>
    cases j with
    | zero =>
      simp at hf hg
      obtain ⟨rfl, rfl, rfl⟩ := hg
      subst hf
      obtain ⟨j', hj, _, hjs, _⟩ := info_of info30
      exact ⟨rfl, by decide, by decide, ⟨j', hj, hjs⟩, _, Try.underlying30, rfl, by decide⟩
    | succ j =>
      cases j with
      | zero =>
        simp at hf hg
        obtain ⟨rfl, rfl, rfl⟩ := hg
        subst hf
        obtain ⟨j', hj, _, hjs, _⟩ := info_of info22
        exact ⟨rfl, by decide, by decide, ⟨j', hj, hjs⟩, _, Try.underlying22, rfl, by decide⟩
      | succ j =>
        cases j with
        | zero =>
          simp at hf hg
          obtain ⟨rfl, rfl, rfl⟩ := hg
          subst hf
          obtain ⟨j', hj, _, hjs, _⟩ := info_of info9
          exact ⟨rfl, by decide, by decide, ⟨j', hj, hjs⟩, _, Try.underlying9, rfl, by decide⟩
        | succ j =>
          cases j with
          | zero =>
            simp at hf hg
            obtain ⟨rfl, rfl, rfl⟩ := hg
            subst hf
            obtain ⟨j', hj, _, hjs, _⟩ := info_of info3
            exact ⟨rfl, by decide, by decide, ⟨j', hj, hjs⟩, _, Try.underlying3, rfl, by decide⟩
          | succ j =>
            simp at hg
theorem ok103 : TdT Try.prog 103 (td 103) := by
  obtain ⟨i, hi, hz, hs, hb⟩ := info_of info103
  exact ⟨⟨_, Try.underlying103, rfl, ⟨_, _, _, rfl⟩⟩, i, hi, hs, hz, rfl, rfl⟩
theorem ok104 : TdT Try.prog 104 (td 104) := by
  obtain ⟨i, hi, hz, hs, hb⟩ := info_of info104
  obtain ⟨j, hj, hjz, hjs, hjb⟩ := info_of info5
  exact ⟨Try.underlying104, by decide, ⟨j, _, hj, hjs, hjb, hjz, rfl⟩, i, hi, hs, hz⟩
theorem ok113 : TdT Try.prog 113 (td 113) := by
  obtain ⟨i, hi, hz, hs, hb⟩ := info_of info113
  exact ⟨⟨_, Try.underlying113, rfl, rfl⟩, i, hi, hs, hz, rfl, rfl⟩
theorem ok116 : TdT Try.prog 116 (td 116) := by
  obtain ⟨i, hi, hz, hs, hb⟩ := info_of info116
  refine ⟨_, i, Try.underlying116, hi, hs, hz, rfl, by decide, by simp [Value.oneCell'], rfl, ?_⟩
  intro j f o s g hf hg
  cases j with
  | zero =>
    simp at hf hg
    obtain ⟨rfl, rfl, rfl⟩ := hg
    subst hf
    obtain ⟨j', hj, _, hjs, _⟩ := info_of info9
    exact ⟨rfl, by decide, by decide, ⟨j', hj, hjs⟩, _, Try.underlying9, rfl, by decide⟩
  | succ j =>
    cases j with
    | zero =>
      simp at hf hg
      obtain ⟨rfl, rfl, rfl⟩ := hg
      subst hf
      obtain ⟨j', hj, _, hjs, _⟩ := info_of info9
      exact ⟨rfl, by decide, by decide, ⟨j', hj, hjs⟩, _, Try.underlying9, rfl, by decide⟩
    | succ j =>
      simp at hg
theorem ok117 : TdT Try.prog 117 (td 117) := by
  obtain ⟨i, hi, hz, hs, hb⟩ := info_of info117
  exact ⟨⟨_, Try.underlying117, rfl, rfl⟩, i, hi, hs, hz, rfl, rfl⟩
theorem ok121 : TdT Try.prog 121 (td 121) := by
  obtain ⟨i, hi, hz, hs, hb⟩ := info_of info121
  obtain ⟨j, hj, hjz, hjs, hjb⟩ := info_of info125
  exact ⟨Try.underlying121, by decide, ⟨j, _, hj, hjs, hjb, hjz, rfl⟩, i, hi, hs, hz⟩
theorem ok123 : TdT Try.prog 123 (td 123) := by
  obtain ⟨i, hi, hz, hs, hb⟩ := info_of info123
  refine ⟨_, i, Try.underlying123, hi, hs, hz, rfl, by decide, by simp [Value.oneCell'], rfl, ?_⟩
  intro j f o s g hf hg
  cases j with
  | zero =>
    simp at hf hg
    obtain ⟨rfl, rfl, rfl⟩ := hg
    subst hf
    obtain ⟨j', hj, _, hjs, _⟩ := info_of info3
    exact ⟨rfl, by decide, by decide, ⟨j', hj, hjs⟩, _, Try.underlying3, rfl, by decide⟩
  | succ j =>
    cases j with
    | zero =>
      simp at hf hg
      obtain ⟨rfl, rfl, rfl⟩ := hg
      subst hf
      obtain ⟨j', hj, _, hjs, _⟩ := info_of info9
      exact ⟨rfl, by decide, by decide, ⟨j', hj, hjs⟩, _, Try.underlying9, rfl, by decide⟩
    | succ j =>
      simp at hg
theorem ok125 : TdT Try.prog 125 (td 125) := by
  obtain ⟨i, hi, hz, hs, hb⟩ := info_of info125
  refine ⟨_, i, Try.underlying125, hi, hs, hz, rfl, by decide, by simp [Value.oneCell'], rfl, ?_⟩
  intro j f o s g hf hg
  cases j with
  | zero =>
    simp at hf hg
    obtain ⟨rfl, rfl, rfl⟩ := hg
    subst hf
    obtain ⟨j', hj, _, hjs, _⟩ := info_of info123
    exact ⟨rfl, by decide, by decide, ⟨j', hj, hjs⟩, _, Try.underlying123, rfl, by decide⟩
  | succ j =>
    cases j with
    | zero =>
      simp at hf hg
      obtain ⟨rfl, rfl, rfl⟩ := hg
      subst hf
      obtain ⟨j', hj, _, hjs, _⟩ := info_of info4
      exact ⟨rfl, by decide, by decide, ⟨j', hj, hjs⟩, _, Try.underlying4, rfl, by decide⟩
    | succ j =>
      cases j with
      | zero =>
        simp at hf hg
        obtain ⟨rfl, rfl, rfl⟩ := hg
        subst hf
        obtain ⟨j', hj, _, hjs, _⟩ := info_of info30
        exact ⟨rfl, by decide, by decide, ⟨j', hj, hjs⟩, _, Try.underlying30, rfl, by decide⟩
      | succ j =>
        simp at hg
theorem ok127 : TdT Try.prog 127 (td 127) := by
  obtain ⟨i, hi, hz, hs, hb⟩ := info_of info127
  obtain ⟨j, hj, hjz, hjs, hjb⟩ := info_of info9
  exact ⟨Try.underlying127, by decide, ⟨j, _, hj, hjs, hjb, hjz, rfl⟩, i, hi, hs, hz⟩
theorem ok129 : TdT Try.prog 129 (td 129) := by
  obtain ⟨i, hi, hz, hs, hb⟩ := info_of info129
  obtain ⟨j, hj, hjz, hjs, hjb⟩ := info_of info3
  exact ⟨Try.underlying129, by decide, ⟨j, _, hj, hjs, hjb, hjz, rfl⟩, i, hi, hs, hz⟩
theorem ok130 : TdT Try.prog 130 (td 130) := by
  obtain ⟨i, hi, hz, hs, hb⟩ := info_of info130
  obtain ⟨j, hj, hjz, hjs, hjb⟩ := info_of info28
  exact ⟨Try.underlying130, by decide, ⟨j, _, hj, hjs, hjb, hjz, rfl⟩, i, hi, hs, hz⟩
theorem ok132 : TdT Try.prog 132 (td 132) := by
  obtain ⟨i, hi, hz, hs, hb⟩ := info_of info132
  obtain ⟨j, hj, hjz, hjs, hjb⟩ := info_of info4
  exact ⟨Try.underlying132, by decide, ⟨j, _, hj, hjs, hjb, hjz, rfl⟩, i, hi, hs, hz⟩
theorem ok135 : TdT Try.prog 135 (td 135) := by
  obtain ⟨i, hi, hz, hs, hb⟩ := info_of info135
  obtain ⟨j, hj, hjz, hjs, hjb⟩ := info_of info123
  exact ⟨Try.underlying135, by decide, ⟨j, _, hj, hjs, hjb, hjz, rfl⟩, i, hi, hs, hz⟩
theorem ok137 : TdT Try.prog 137 (td 137) := by
  obtain ⟨i, hi, hz, hs, hb⟩ := info_of info137
  obtain ⟨j, hj, hjz, hjs, hjb⟩ := info_of info139
  exact ⟨Try.underlying137, by decide, ⟨j, _, hj, hjs, hjb, hjz, rfl⟩, i, hi, hs, hz⟩
theorem ok139 : TdT Try.prog 139 (td 139) := by
  obtain ⟨i, hi, hz, hs, hb⟩ := info_of info139
  refine ⟨_, i, Try.underlying139, hi, hs, hz, rfl, by decide, by simp [Value.oneCell'], rfl, ?_⟩
  intro j f o s g hf hg
  cases j with
  | zero =>
    simp at hf hg
    obtain ⟨rfl, rfl, rfl⟩ := hg
    subst hf
    obtain ⟨j', hj, _, hjs, _⟩ := info_of info123
    exact ⟨rfl, by decide, by decide, ⟨j', hj, hjs⟩, _, Try.underlying123, rfl, by decide⟩
  | succ j =>
    cases j with
    | zero =>
      simp at hf hg
      obtain ⟨rfl, rfl, rfl⟩ := hg
      subst hf
      obtain ⟨j', hj, _, hjs, _⟩ := info_of info3
      exact ⟨rfl, by decide, by decide, ⟨j', hj, hjs⟩, _, Try.underlying3, rfl, by decide⟩
    | succ j =>
      simp at hg
theorem ok141 : TdT Try.prog 141 (td 141) := by
  obtain ⟨i, hi, hz, hs, hb⟩ := info_of info141
  obtain ⟨j, hj, hjz, hjs, hjb⟩ := info_of info27
  exact ⟨Try.underlying141, by decide, ⟨j, _, hj, hjs, hjb, hjz, rfl⟩, i, hi, hs, hz⟩
theorem ok143 : TdT Try.prog 143 (td 143) := by
  obtain ⟨i, hi, hz, hs, hb⟩ := info_of info143
  obtain ⟨j, hj, hjz, hjs, hjb⟩ := info_of info145
  exact ⟨Try.underlying143, by decide, ⟨j, _, hj, hjs, hjb, hjz, rfl⟩, i, hi, hs, hz⟩
theorem ok145 : TdT Try.prog 145 (td 145) := by
  obtain ⟨i, hi, hz, hs, hb⟩ := info_of info145
  refine ⟨_, i, Try.underlying145, hi, hs, hz, rfl, by decide, by simp [Value.oneCell'], rfl, ?_⟩
  intro j f o s g hf hg
  cases j with
  | zero =>
    simp at hf hg
    obtain ⟨rfl, rfl, rfl⟩ := hg
    subst hf
    obtain ⟨j', hj, _, hjs, _⟩ := info_of info3
    exact ⟨rfl, by decide, by decide, ⟨j', hj, hjs⟩, _, Try.underlying3, rfl, by decide⟩
  | succ j =>
    cases j with
    | zero =>
      simp at hf hg
      obtain ⟨rfl, rfl, rfl⟩ := hg
      subst hf
      obtain ⟨j', hj, _, hjs, _⟩ := info_of info3
      exact ⟨rfl, by decide, by decide, ⟨j', hj, hjs⟩, _, Try.underlying3, rfl, by decide⟩
    | succ j =>
      cases j with
      | zero =>
        simp at hf hg
        obtain ⟨rfl, rfl, rfl⟩ := hg
        subst hf
        obtain ⟨j', hj, _, hjs, _⟩ := info_of info4
        exact ⟨rfl, by decide, by decide, ⟨j', hj, hjs⟩, _, Try.underlying4, rfl, by decide⟩
      | succ j =>
        simp at hg
theorem ok151 : TdT Try.prog 151 (td 151) := by
  obtain ⟨i, hi, hz, hs, hb⟩ := info_of info151
  exact ⟨⟨_, Try.underlying151, rfl, ⟨_, rfl⟩⟩, i, hi, hs, hz, rfl, rfl⟩
theorem ok152 : TdT Try.prog 152 (td 152) := by
  obtain ⟨i, hi, hz, hs, hb⟩ := info_of info152
  obtain ⟨j, hj, hjz, hjs, hjb⟩ := info_of info20
  exact ⟨Try.underlying152, by decide, ⟨j, _, hj, hjs, hjb, hjz, rfl⟩, i, hi, hs, hz⟩
theorem tds : ∀ t, TdT Try.prog t (td t) := by
  intro t
  unfold td
  split
  · exact ok1
  · exact ok2
  · exact ok3
  · exact ok4
  · exact ok5
  · exact ok6
  · exact ok9
  · exact ok20
  · exact ok22
  · exact ok24
  · exact ok25
  · exact ok27
  · exact ok28
  · exact ok30
  · exact ok35
  · exact ok39
  · exact ok40
  · exact ok41
  · exact ok42
  · exact ok43
  · exact ok44
  · exact ok45
  · exact ok46
  · exact ok47
  · exact ok48
  · exact ok49
  · exact ok50
  · exact ok51
  · exact ok53
  · exact ok68
  · exact ok72
  · exact ok74
  · exact ok76
  · exact ok78
  · exact ok101
  · exact ok103
  · exact ok104
  · exact ok113
  · exact ok116
  · exact ok117
  · exact ok121
  · exact ok123
  · exact ok125
  · exact ok127
  · exact ok129
  · exact ok130
  · exact ok132
  · exact ok135
  · exact ok137
  · exact ok139
  · exact ok141
  · exact ok143
  · exact ok145
  · exact ok151
  · exact ok152
  · trivial

def conc : Nat → Bool
  | 2 => true
  | 3 => true
  | 4 => true
  | 5 => true
  | 6 => true
  | 9 => true
  | 22 => true
  | 24 => true
  | 25 => true
  | 27 => true
  | 28 => true
  | 30 => true
  | 35 => true
  | 40 => true
  | 41 => true
  | 42 => true
  | 43 => true
  | 44 => true
  | 45 => true
  | 46 => true
  | 47 => true
  | 48 => true
  | 49 => true
  | 50 => true
  | 51 => true
  | 53 => true
  | 68 => true
  | 74 => true
  | 78 => true
  | 101 => true
  | 104 => true
  | 113 => true
  | 116 => true
  | 117 => true
  | 121 => true
  | 123 => true
  | 125 => true
  | 127 => true
  | 129 => true
  | 130 => true
  | 132 => true
  | 135 => true
  | 137 => true
  | 139 => true
  | 141 => true
  | 143 => true
  | 145 => true
  | 152 => true
  | _ => false
theorem concs : ∀ t, conc t = true → ∃ d, Try.prog.underlying t = some d ∧ (match d with | .interface _ => false | _ => true) = true := by
  intro t h
  unfold conc at h
  split at h
  · exact ⟨_, Try.underlying2, rfl⟩
  · exact ⟨_, Try.underlying3, rfl⟩
  · exact ⟨_, Try.underlying4, rfl⟩
  · exact ⟨_, Try.underlying5, rfl⟩
  · exact ⟨_, Try.underlying6, rfl⟩
  · exact ⟨_, Try.underlying9, rfl⟩
  · exact ⟨_, Try.underlying22, rfl⟩
  · exact ⟨_, Try.underlying24, rfl⟩
  · exact ⟨_, Try.underlying25, rfl⟩
  · exact ⟨_, Try.underlying27, rfl⟩
  · exact ⟨_, Try.underlying28, rfl⟩
  · exact ⟨_, Try.underlying30, rfl⟩
  · exact ⟨_, Try.underlying35, rfl⟩
  · exact ⟨_, Try.underlying40, rfl⟩
  · exact ⟨_, Try.underlying41, rfl⟩
  · exact ⟨_, Try.underlying42, rfl⟩
  · exact ⟨_, Try.underlying43, rfl⟩
  · exact ⟨_, Try.underlying44, rfl⟩
  · exact ⟨_, Try.underlying45, rfl⟩
  · exact ⟨_, Try.underlying46, rfl⟩
  · exact ⟨_, Try.underlying47, rfl⟩
  · exact ⟨_, Try.underlying48, rfl⟩
  · exact ⟨_, Try.underlying49, rfl⟩
  · exact ⟨_, Try.underlying50, rfl⟩
  · exact ⟨_, Try.underlying51, rfl⟩
  · exact ⟨_, Try.underlying53, rfl⟩
  · exact ⟨_, Try.underlying68, rfl⟩
  · exact ⟨_, Try.underlying74, rfl⟩
  · exact ⟨_, Try.underlying78, rfl⟩
  · exact ⟨_, Try.underlying101, rfl⟩
  · exact ⟨_, Try.underlying104, rfl⟩
  · exact ⟨_, Try.underlying113, rfl⟩
  · exact ⟨_, Try.underlying116, rfl⟩
  · exact ⟨_, Try.underlying117, rfl⟩
  · exact ⟨_, Try.underlying121, rfl⟩
  · exact ⟨_, Try.underlying123, rfl⟩
  · exact ⟨_, Try.underlying125, rfl⟩
  · exact ⟨_, Try.underlying127, rfl⟩
  · exact ⟨_, Try.underlying129, rfl⟩
  · exact ⟨_, Try.underlying130, rfl⟩
  · exact ⟨_, Try.underlying132, rfl⟩
  · exact ⟨_, Try.underlying135, rfl⟩
  · exact ⟨_, Try.underlying137, rfl⟩
  · exact ⟨_, Try.underlying139, rfl⟩
  · exact ⟨_, Try.underlying141, rfl⟩
  · exact ⟨_, Try.underlying143, rfl⟩
  · exact ⟨_, Try.underlying145, rfl⟩
  · exact ⟨_, Try.underlying152, rfl⟩
  · cases h

def eqs : Nat → List Nat
  | 27 => [0, 0]
  | 116 => [2, 2]
  | 123 => [0, 2]
  | 145 => [0, 0, 1]
  | _ => []
theorem eq27 : Try.prog.eqGuardType Try.prog.depth 27 = false ∧ Try.prog.stoodInHeld 27 = false ∧ ∃ flds, Try.prog.underlying 27 = some (.struct flds) ∧ EqFlds Try.prog 0 flds.toList (eqs 27) := by
  refine ⟨by kernel_rfl, by kernel_rfl, _, Try.underlying27, ?_⟩
  exact ⟨rfl, by decide, ⟨_, Try.underlying3, trivial⟩, rfl, by decide, ⟨_, Try.underlying3, trivial⟩, trivial⟩
theorem eq116 : Try.prog.eqGuardType Try.prog.depth 116 = false ∧ Try.prog.stoodInHeld 116 = false ∧ ∃ flds, Try.prog.underlying 116 = some (.struct flds) ∧ EqFlds Try.prog 0 flds.toList (eqs 116) := by
  refine ⟨by kernel_rfl, by kernel_rfl, _, Try.underlying116, ?_⟩
  exact ⟨rfl, by decide, ⟨_, Try.underlying9, trivial⟩, rfl, by decide, ⟨_, Try.underlying9, trivial⟩, trivial⟩
theorem eq123 : Try.prog.eqGuardType Try.prog.depth 123 = false ∧ Try.prog.stoodInHeld 123 = false ∧ ∃ flds, Try.prog.underlying 123 = some (.struct flds) ∧ EqFlds Try.prog 0 flds.toList (eqs 123) := by
  refine ⟨by kernel_rfl, by kernel_rfl, _, Try.underlying123, ?_⟩
  exact ⟨rfl, by decide, ⟨_, Try.underlying3, trivial⟩, rfl, by decide, ⟨_, Try.underlying9, trivial⟩, trivial⟩
theorem eq145 : Try.prog.eqGuardType Try.prog.depth 145 = false ∧ Try.prog.stoodInHeld 145 = false ∧ ∃ flds, Try.prog.underlying 145 = some (.struct flds) ∧ EqFlds Try.prog 0 flds.toList (eqs 145) := by
  refine ⟨by kernel_rfl, by kernel_rfl, _, Try.underlying145, ?_⟩
  exact ⟨rfl, by decide, ⟨_, Try.underlying3, trivial⟩, rfl, by decide, ⟨_, Try.underlying3, trivial⟩, rfl, by decide, ⟨_, Try.underlying4, trivial⟩, trivial⟩
theorem eqss : ∀ t, eqs t ≠ [] → Try.prog.eqGuardType Try.prog.depth t = false ∧ Try.prog.stoodInHeld t = false ∧ ∃ flds, Try.prog.underlying t = some (.struct flds) ∧ EqFlds Try.prog 0 flds.toList (eqs t) := by
  intro t h
  unfold eqs at h
  split at h
  · exact eq27
  · exact eq116
  · exact eq123
  · exact eq145
  · exact absurd rfl h

/-- The functions. -/
noncomputable def fns : Nat → Option Func
  | 3 => some Try.f3
  | 4 => some Try.f4
  | 5 => some Try.f5
  | 6 => some Try.f6
  | 7 => some Try.f7
  | 8 => some Try.f8
  | 9 => some Try.f9
  | 10 => some Try.f10
  | 11 => some Try.f11
  | 12 => some Try.f12
  | 13 => some Try.f13
  | 14 => some Try.f14
  | 15 => some Try.f15
  | 16 => some Try.f16
  | 17 => some Try.f17
  | 18 => some Try.f18
  | 19 => some Try.f19
  | 20 => some Try.f20
  | 21 => some Try.f21
  | 22 => some Try.f22
  | 23 => some Try.f23
  | 24 => some Try.f24
  | 25 => some Try.f25
  | 26 => some Try.f26
  | 27 => some Try.f27
  | 28 => some Try.f28
  | 29 => some Try.f29
  | 30 => some Try.f30
  | 31 => some Try.f31
  | 32 => some Try.f32
  | 33 => some Try.f33
  | 34 => some Try.f34
  | 35 => some Try.f35
  | 36 => some Try.f36
  | 37 => some Try.f37
  | 38 => some Try.f38
  | 39 => some Try.f39
  | 40 => some Try.f40
  | 41 => some Try.f41
  | 42 => some Try.f42
  | 43 => some Try.f43
  | 44 => some Try.f44
  | 45 => some Try.f45
  | 46 => some Try.f46
  | 47 => some Try.f47
  | 48 => some Try.f48
  | 49 => some Try.f49
  | 50 => some Try.f50
  | 51 => some Try.f51
  | 52 => some Try.f52
  | 53 => some Try.f53
  | 54 => some Try.f54
  | 55 => some Try.f55
  | 56 => some Try.f56
  | 57 => some Try.f57
  | 58 => some Try.f58
  | 59 => some Try.f59
  | 60 => some Try.f60
  | 61 => some Try.f61
  | 62 => some Try.f62
  | 63 => some Try.f63
  | 64 => some Try.f64
  | 65 => some Try.f65
  | 66 => some Try.f66
  | 67 => some Try.f67
  | 68 => some Try.f68
  | 69 => some Try.f69
  | 70 => some Try.f70
  | 71 => some Try.f71
  | 72 => some Try.f72
  | 73 => some Try.f73
  | 74 => some Try.f74
  | 75 => some Try.f75
  | 76 => some Try.f76
  | 77 => some Try.f77
  | 78 => some Try.f78
  | 79 => some Try.f79
  | 80 => some Try.f80
  | 81 => some Try.f81
  | 82 => some Try.f82
  | 83 => some Try.f83
  | 84 => some Try.f84
  | 85 => some Try.f85
  | 86 => some Try.f86
  | 87 => some Try.f87
  | 88 => some Try.f88
  | 89 => some Try.f89
  | 90 => some Try.f90
  | 91 => some Try.f91
  | 92 => some Try.f92
  | 93 => some Try.f93
  | 94 => some Try.f94
  | 95 => some Try.f95
  | 96 => some Try.f96
  | 97 => some Try.f97
  | 98 => some Try.f98
  | 99 => some Try.f99
  | 100 => some Try.f100
  | 101 => some Try.f101
  | 102 => some Try.f102
  | 103 => some Try.f103
  | 104 => some Try.f104
  | 105 => some Try.f105
  | 106 => some Try.f106
  | 107 => some Try.f107
  | 108 => some Try.f108
  | 109 => some Try.f109
  | 110 => some Try.f110
  | 111 => some Try.f111
  | 112 => some Try.f112
  | 113 => some Try.f113
  | 114 => some Try.f114
  | 115 => some Try.f115
  | _ => none
theorem fnss : ∀ n fn, fns n = some fn → Try.prog.funcs[n]? = some fn ∧ fn.body.isSome = true ∧ (fn.name == "runtime.NumGoroutine") = false := by
  intro n fn h
  unfold fns at h
  split at h
  · cases h; exact ⟨Try.func3, rfl, by decide⟩
  · cases h; exact ⟨Try.func4, rfl, by decide⟩
  · cases h; exact ⟨Try.func5, rfl, by decide⟩
  · cases h; exact ⟨Try.func6, rfl, by decide⟩
  · cases h; exact ⟨Try.func7, rfl, by decide⟩
  · cases h; exact ⟨Try.func8, rfl, by decide⟩
  · cases h; exact ⟨Try.func9, rfl, by decide⟩
  · cases h; exact ⟨Try.func10, rfl, by decide⟩
  · cases h; exact ⟨Try.func11, rfl, by decide⟩
  · cases h; exact ⟨Try.func12, rfl, by decide⟩
  · cases h; exact ⟨Try.func13, rfl, by decide⟩
  · cases h; exact ⟨Try.func14, rfl, by decide⟩
  · cases h; exact ⟨Try.func15, rfl, by decide⟩
  · cases h; exact ⟨Try.func16, rfl, by decide⟩
  · cases h; exact ⟨Try.func17, rfl, by decide⟩
  · cases h; exact ⟨Try.func18, rfl, by decide⟩
  · cases h; exact ⟨Try.func19, rfl, by decide⟩
  · cases h; exact ⟨Try.func20, rfl, by decide⟩
  · cases h; exact ⟨Try.func21, rfl, by decide⟩
  · cases h; exact ⟨Try.func22, rfl, by decide⟩
  · cases h; exact ⟨Try.func23, rfl, by decide⟩
  · cases h; exact ⟨Try.func24, rfl, by decide⟩
  · cases h; exact ⟨Try.func25, rfl, by decide⟩
  · cases h; exact ⟨Try.func26, rfl, by decide⟩
  · cases h; exact ⟨Try.func27, rfl, by decide⟩
  · cases h; exact ⟨Try.func28, rfl, by decide⟩
  · cases h; exact ⟨Try.func29, rfl, by decide⟩
  · cases h; exact ⟨Try.func30, rfl, by decide⟩
  · cases h; exact ⟨Try.func31, rfl, by decide⟩
  · cases h; exact ⟨Try.func32, rfl, by decide⟩
  · cases h; exact ⟨Try.func33, rfl, by decide⟩
  · cases h; exact ⟨Try.func34, rfl, by decide⟩
  · cases h; exact ⟨Try.func35, rfl, by decide⟩
  · cases h; exact ⟨Try.func36, rfl, by decide⟩
  · cases h; exact ⟨Try.func37, rfl, by decide⟩
  · cases h; exact ⟨Try.func38, rfl, by decide⟩
  · cases h; exact ⟨Try.func39, rfl, by decide⟩
  · cases h; exact ⟨Try.func40, rfl, by decide⟩
  · cases h; exact ⟨Try.func41, rfl, by decide⟩
  · cases h; exact ⟨Try.func42, rfl, by decide⟩
  · cases h; exact ⟨Try.func43, rfl, by decide⟩
  · cases h; exact ⟨Try.func44, rfl, by decide⟩
  · cases h; exact ⟨Try.func45, rfl, by decide⟩
  · cases h; exact ⟨Try.func46, rfl, by decide⟩
  · cases h; exact ⟨Try.func47, rfl, by decide⟩
  · cases h; exact ⟨Try.func48, rfl, by decide⟩
  · cases h; exact ⟨Try.func49, rfl, by decide⟩
  · cases h; exact ⟨Try.func50, rfl, by decide⟩
  · cases h; exact ⟨Try.func51, rfl, by decide⟩
  · cases h; exact ⟨Try.func52, rfl, by decide⟩
  · cases h; exact ⟨Try.func53, rfl, by decide⟩
  · cases h; exact ⟨Try.func54, rfl, by decide⟩
  · cases h; exact ⟨Try.func55, rfl, by decide⟩
  · cases h; exact ⟨Try.func56, rfl, by decide⟩
  · cases h; exact ⟨Try.func57, rfl, by decide⟩
  · cases h; exact ⟨Try.func58, rfl, by decide⟩
  · cases h; exact ⟨Try.func59, rfl, by decide⟩
  · cases h; exact ⟨Try.func60, rfl, by decide⟩
  · cases h; exact ⟨Try.func61, rfl, by decide⟩
  · cases h; exact ⟨Try.func62, rfl, by decide⟩
  · cases h; exact ⟨Try.func63, rfl, by decide⟩
  · cases h; exact ⟨Try.func64, rfl, by decide⟩
  · cases h; exact ⟨Try.func65, rfl, by decide⟩
  · cases h; exact ⟨Try.func66, rfl, by decide⟩
  · cases h; exact ⟨Try.func67, rfl, by decide⟩
  · cases h; exact ⟨Try.func68, rfl, by decide⟩
  · cases h; exact ⟨Try.func69, rfl, by decide⟩
  · cases h; exact ⟨Try.func70, rfl, by decide⟩
  · cases h; exact ⟨Try.func71, rfl, by decide⟩
  · cases h; exact ⟨Try.func72, rfl, by decide⟩
  · cases h; exact ⟨Try.func73, rfl, by decide⟩
  · cases h; exact ⟨Try.func74, rfl, by decide⟩
  · cases h; exact ⟨Try.func75, rfl, by decide⟩
  · cases h; exact ⟨Try.func76, rfl, by decide⟩
  · cases h; exact ⟨Try.func77, rfl, by decide⟩
  · cases h; exact ⟨Try.func78, rfl, by decide⟩
  · cases h; exact ⟨Try.func79, rfl, by decide⟩
  · cases h; exact ⟨Try.func80, rfl, by decide⟩
  · cases h; exact ⟨Try.func81, rfl, by decide⟩
  · cases h; exact ⟨Try.func82, rfl, by decide⟩
  · cases h; exact ⟨Try.func83, rfl, by decide⟩
  · cases h; exact ⟨Try.func84, rfl, by decide⟩
  · cases h; exact ⟨Try.func85, rfl, by decide⟩
  · cases h; exact ⟨Try.func86, rfl, by decide⟩
  · cases h; exact ⟨Try.func87, rfl, by decide⟩
  · cases h; exact ⟨Try.func88, rfl, by decide⟩
  · cases h; exact ⟨Try.func89, rfl, by decide⟩
  · cases h; exact ⟨Try.func90, rfl, by decide⟩
  · cases h; exact ⟨Try.func91, rfl, by decide⟩
  · cases h; exact ⟨Try.func92, rfl, by decide⟩
  · cases h; exact ⟨Try.func93, rfl, by decide⟩
  · cases h; exact ⟨Try.func94, rfl, by decide⟩
  · cases h; exact ⟨Try.func95, rfl, by decide⟩
  · cases h; exact ⟨Try.func96, rfl, by decide⟩
  · cases h; exact ⟨Try.func97, rfl, by decide⟩
  · cases h; exact ⟨Try.func98, rfl, by decide⟩
  · cases h; exact ⟨Try.func99, rfl, by decide⟩
  · cases h; exact ⟨Try.func100, rfl, by decide⟩
  · cases h; exact ⟨Try.func101, rfl, by decide⟩
  · cases h; exact ⟨Try.func102, rfl, by decide⟩
  · cases h; exact ⟨Try.func103, rfl, by decide⟩
  · cases h; exact ⟨Try.func104, rfl, by decide⟩
  · cases h; exact ⟨Try.func105, rfl, by decide⟩
  · cases h; exact ⟨Try.func106, rfl, by decide⟩
  · cases h; exact ⟨Try.func107, rfl, by decide⟩
  · cases h; exact ⟨Try.func108, rfl, by decide⟩
  · cases h; exact ⟨Try.func109, rfl, by decide⟩
  · cases h; exact ⟨Try.func110, rfl, by decide⟩
  · cases h; exact ⟨Try.func111, rfl, by decide⟩
  · cases h; exact ⟨Try.func112, rfl, by decide⟩
  · cases h; exact ⟨Try.func113, rfl, by decide⟩
  · cases h; exact ⟨Try.func114, rfl, by decide⟩
  · cases h; exact ⟨Try.func115, rfl, by decide⟩
  · cases h

/-- Slots that nothing looks at any more, at each loop's head and behind it. -/
def kl : List (List Nat × List Nat × List Nat) := [([48, 49, 50, 51, 54, 55, 56, 57, 58, 59, 60, 61, 62, 63, 64, 65, 66, 67, 68, 69, 70, 71, 72, 73, 74, 52, 53], [0, 1, 3, 5, 6, 7, 9, 10, 12, 13, 14, 15, 16, 17, 18, 19, 20, 21, 22, 23, 24, 25, 26, 27, 28, 29, 30, 31, 32, 33, 34, 35, 36, 37, 38, 39, 40, 41, 42, 43, 44, 45, 46, 47, 48, 49, 50, 51, 52, 53, 54, 55, 56, 57, 58, 59, 60, 61, 62, 63, 64, 65, 66, 67, 68, 69, 70, 71, 72, 73, 74], [0, 1, 2, 3, 4, 5, 7, 8, 9, 10, 11, 12, 13, 14, 15, 16, 17, 18, 19, 20, 21, 22, 23, 24, 25, 26, 27, 28, 29, 30, 31, 32, 33, 34, 35, 36, 37, 38, 39, 40, 41, 42, 43, 44, 45, 46, 47, 48, 49, 50, 51, 52, 53, 54, 55, 56, 57, 58, 59, 60, 61, 62, 63, 64, 65, 66, 67, 68, 69, 70, 71, 72, 73, 74]),
  ([52, 53, 56, 57, 58, 12, 59, 60, 61, 62, 65, 66, 67, 68, 69, 70, 71, 72, 73, 74, 75, 76, 77, 78, 63, 64, 79, 80, 81, 82, 83, 84, 85, 86, 87, 88, 89, 90, 91, 92, 93, 94, 95, 96, 97, 98, 99, 100, 101, 102, 103, 104, 105, 106, 107, 108, 109, 110, 111, 112, 113, 114, 115, 116, 117, 118, 119, 120, 121, 124, 125, 126, 127, 130, 131, 132, 133, 134, 135, 136, 137, 138, 139, 140, 141, 142, 143, 144, 145, 146, 147, 148, 149, 150, 151, 128, 129, 152, 153, 154, 155, 156, 157, 158, 159, 160, 122, 123, 161, 54, 55], [0, 1, 2, 3, 4, 5, 6, 8, 9, 12, 13, 14, 15, 16, 17, 18, 19, 20, 21, 22, 23, 24, 25, 26, 27, 28, 29, 30, 31, 32, 33, 34, 35, 36, 37, 38, 39, 40, 41, 42, 43, 44, 45, 46, 47, 48, 49, 50, 51, 52, 53, 54, 55, 56, 57, 58, 59, 60, 61, 62, 63, 64, 65, 66, 67, 68, 69, 70, 71, 72, 73, 74, 75, 76, 77, 78, 79, 80, 81, 82, 83, 84, 85, 86, 87, 88, 89, 90, 91, 92, 93, 94, 95, 96, 97, 98, 99, 100, 101, 102, 103, 104, 105, 106, 107, 108, 109, 110, 111, 112, 113, 114, 115, 116, 117, 118, 119, 120, 121, 122, 123, 124, 125, 126, 127, 128, 129, 130, 131, 132, 133, 134, 135, 136, 137, 138, 139, 140, 141, 142, 143, 144, 145, 146, 147, 148, 149, 150, 151, 152, 153, 154, 155, 156, 157, 158, 159, 160, 161], [0, 1, 2, 3, 4, 5, 7, 8, 9, 10, 11, 12, 13, 14, 15, 16, 17, 18, 19, 20, 21, 22, 23, 24, 25, 26, 27, 28, 29, 30, 31, 32, 33, 34, 35, 36, 37, 38, 39, 40, 41, 42, 43, 44, 45, 46, 47, 48, 49, 50, 51, 52, 53, 54, 55, 56, 57, 58, 59, 60, 61, 62, 63, 64, 65, 66, 67, 68, 69, 70, 71, 72, 73, 74, 75, 76, 77, 78, 79, 80, 81, 82, 83, 84, 85, 86, 87, 88, 89, 90, 91, 92, 93, 94, 95, 96, 97, 98, 99, 100, 101, 102, 103, 104, 105, 106, 107, 108, 109, 110, 111, 112, 113, 114, 115, 116, 117, 118, 119, 120, 121, 122, 123, 124, 125, 126, 127, 128, 129, 130, 131, 132, 133, 134, 135, 136, 137, 138, 139, 140, 141, 142, 143, 144, 145, 146, 147, 148, 149, 150, 151, 152, 153, 154, 155, 156, 157, 158, 159, 160, 161]),
  ([59, 60, 61, 62, 65, 66, 67, 68, 69, 70, 71, 72, 73, 74, 75, 76, 77, 78, 63, 64], [0, 1, 2, 3, 4, 5, 6, 8, 9, 14, 15, 16, 17, 18, 19, 20, 21, 22, 23, 24, 25, 26, 27, 28, 29, 30, 31, 32, 33, 34, 35, 36, 37, 38, 39, 40, 41, 42, 43, 44, 45, 46, 47, 48, 49, 50, 51, 52, 53, 54, 55, 56, 57, 58, 59, 60, 61, 62, 63, 64, 65, 66, 67, 68, 69, 70, 71, 72, 73, 74, 75, 76, 77, 78, 79, 80, 81, 82, 83, 84, 85, 86, 87, 88, 89, 90, 91, 92, 93, 94, 95, 96, 97, 98, 99, 100, 101, 102, 103, 104, 105, 106, 107, 108, 109, 110, 111, 112, 113, 114, 115, 116, 117, 118, 119, 120, 121, 122, 123, 124, 125, 126, 127, 128, 129, 130, 131, 132, 133, 134, 135, 136, 137, 138, 139, 140, 141, 142, 143, 144, 145, 146, 147, 148, 149, 150, 151, 152, 153, 154, 155, 156, 157, 158, 159, 160, 161], [0, 1, 2, 3, 4, 5, 8, 9, 13, 14, 15, 16, 17, 18, 19, 20, 21, 22, 23, 24, 25, 26, 27, 28, 29, 30, 31, 32, 33, 34, 35, 36, 37, 38, 39, 40, 41, 42, 43, 44, 45, 46, 47, 48, 49, 50, 51, 52, 53, 54, 55, 56, 57, 58, 59, 60, 61, 62, 63, 64, 65, 66, 67, 68, 69, 70, 71, 72, 73, 74, 75, 76, 77, 78, 79, 80, 81, 82, 83, 84, 85, 86, 87, 88, 89, 90, 91, 92, 93, 94, 95, 96, 97, 98, 99, 100, 101, 102, 103, 104, 105, 106, 107, 108, 109, 110, 111, 112, 113, 114, 115, 116, 117, 118, 119, 120, 121, 122, 123, 124, 125, 126, 127, 128, 129, 130, 131, 132, 133, 134, 135, 136, 137, 138, 139, 140, 141, 142, 143, 144, 145, 146, 147, 148, 149, 150, 151, 152, 153, 154, 155, 156, 157, 158, 159, 160, 161]),
  ([118, 119, 120, 121, 124, 125, 126, 127, 130, 131, 132, 133, 134, 135, 136, 137, 138, 139, 140, 141, 142, 143, 144, 145, 146, 147, 148, 149, 150, 151, 128, 129, 152, 153, 154, 155, 156, 157, 158, 159, 160, 122, 123], [0, 1, 2, 3, 4, 5, 6, 8, 9, 12, 13, 17, 18, 19, 20, 21, 22, 23, 24, 25, 26, 27, 28, 29, 30, 31, 32, 33, 34, 35, 36, 37, 38, 39, 40, 41, 42, 43, 44, 45, 46, 47, 48, 49, 50, 51, 52, 53, 54, 55, 56, 57, 58, 59, 60, 61, 62, 63, 64, 65, 66, 67, 68, 69, 70, 71, 72, 73, 74, 75, 76, 77, 78, 79, 80, 81, 82, 83, 84, 85, 86, 87, 88, 89, 90, 91, 92, 93, 94, 95, 96, 97, 98, 99, 100, 101, 102, 103, 104, 105, 106, 107, 108, 109, 110, 111, 112, 113, 114, 115, 116, 117, 118, 119, 120, 121, 122, 123, 124, 125, 126, 127, 128, 129, 130, 131, 132, 133, 134, 135, 136, 137, 138, 139, 140, 141, 142, 143, 144, 145, 146, 147, 148, 149, 150, 151, 152, 153, 154, 155, 156, 157, 158, 159, 160, 161], [0, 1, 2, 3, 4, 5, 8, 9, 12, 13, 14, 16, 17, 18, 19, 20, 21, 22, 23, 24, 25, 26, 27, 28, 29, 30, 31, 32, 33, 34, 35, 36, 37, 38, 39, 40, 41, 42, 43, 44, 45, 46, 47, 48, 49, 50, 51, 52, 53, 54, 55, 56, 57, 58, 59, 60, 61, 62, 63, 64, 65, 66, 67, 68, 69, 70, 71, 72, 73, 74, 75, 76, 77, 78, 79, 80, 81, 82, 83, 84, 85, 86, 87, 88, 89, 90, 91, 92, 93, 94, 95, 96, 97, 98, 99, 100, 101, 102, 103, 104, 105, 106, 107, 108, 109, 110, 111, 112, 113, 114, 115, 116, 117, 118, 119, 120, 121, 122, 123, 124, 125, 126, 127, 128, 129, 130, 131, 132, 133, 134, 135, 136, 137, 138, 139, 140, 141, 142, 143, 144, 145, 146, 147, 148, 149, 150, 151, 152, 153, 154, 155, 156, 157, 158, 159, 160, 161]),
  ([124, 125, 126, 127, 130, 131, 132, 133, 134, 135, 136, 137, 138, 139, 140, 141, 142, 143, 144, 145, 146, 147, 148, 149, 150, 151, 128, 129], [0, 1, 2, 3, 4, 5, 6, 8, 9, 12, 13, 19, 20, 21, 22, 23, 24, 25, 26, 27, 28, 29, 30, 31, 32, 33, 34, 35, 36, 37, 38, 39, 40, 41, 42, 43, 44, 45, 46, 47, 48, 49, 50, 51, 52, 53, 54, 55, 56, 57, 58, 59, 60, 61, 62, 63, 64, 65, 66, 67, 68, 69, 70, 71, 72, 73, 74, 75, 76, 77, 78, 79, 80, 81, 82, 83, 84, 85, 86, 87, 88, 89, 90, 91, 92, 93, 94, 95, 96, 97, 98, 99, 100, 101, 102, 103, 104, 105, 106, 107, 108, 109, 110, 111, 112, 113, 114, 115, 116, 117, 118, 119, 120, 121, 122, 123, 124, 125, 126, 127, 128, 129, 130, 131, 132, 133, 134, 135, 136, 137, 138, 139, 140, 141, 142, 143, 144, 145, 146, 147, 148, 149, 150, 151, 152, 153, 154, 155, 156, 157, 158, 159, 160, 161], [0, 1, 2, 3, 4, 5, 8, 9, 12, 13, 18, 19, 20, 21, 22, 23, 24, 25, 26, 27, 28, 29, 30, 31, 32, 33, 34, 35, 36, 37, 38, 39, 40, 41, 42, 43, 44, 45, 46, 47, 48, 49, 50, 51, 52, 53, 54, 55, 56, 57, 58, 59, 60, 61, 62, 63, 64, 65, 66, 67, 68, 69, 70, 71, 72, 73, 74, 75, 76, 77, 78, 79, 80, 81, 82, 83, 84, 85, 86, 87, 88, 89, 90, 91, 92, 93, 94, 95, 96, 97, 98, 99, 100, 101, 102, 103, 104, 105, 106, 107, 108, 109, 110, 111, 112, 113, 114, 115, 116, 117, 118, 119, 120, 121, 122, 123, 124, 125, 126, 127, 128, 129, 130, 131, 132, 133, 134, 135, 136, 137, 138, 139, 140, 141, 142, 143, 144, 145, 146, 147, 148, 149, 150, 151, 152, 153, 154, 155, 156, 157, 158, 159, 160, 161]),
  ([24, 25, 26, 27, 28, 31, 32, 33, 34, 35, 36, 37, 38, 39, 40, 41, 42, 43, 44, 45, 46, 47, 48, 49, 29, 30], [0, 1, 5, 6, 9, 10, 11, 12, 13, 14, 15, 16, 17, 18, 19, 20, 21, 22, 23, 24, 25, 26, 27, 28, 29, 30, 31, 32, 33, 34, 35, 36, 37, 38, 39, 40, 41, 42, 43, 44, 45, 46, 47, 48, 49, 50, 51, 52, 53, 54, 55, 56, 57, 58, 59, 60, 61, 62, 63, 64, 65, 66, 67, 68, 69, 70, 71, 72, 73, 74, 75, 76, 77, 78, 79, 80, 81, 82, 83, 84, 85, 86, 87, 88, 89, 90], [0, 1, 5, 8, 9, 10, 11, 12, 13, 14, 15, 16, 17, 18, 19, 20, 21, 22, 23, 24, 25, 26, 27, 28, 29, 30, 31, 32, 33, 34, 35, 36, 37, 38, 39, 40, 41, 42, 43, 44, 45, 46, 47, 48, 49, 50, 51, 52, 53, 54, 55, 56, 57, 58, 59, 60, 61, 62, 63, 64, 65, 66, 67, 68, 69, 70, 71, 72, 73, 74, 75, 76, 77, 78, 79, 80, 81, 82, 83, 84, 85, 86, 87, 88, 89, 90]),
  ([50, 51, 52, 53, 56, 57, 58, 59, 60, 61, 62, 63, 64, 65, 66, 67, 68, 69, 70, 54, 55], [0, 1, 5, 6, 8, 11, 12, 13, 14, 15, 16, 17, 18, 19, 20, 21, 22, 23, 24, 25, 26, 27, 28, 29, 30, 31, 32, 33, 34, 35, 36, 37, 38, 39, 40, 41, 42, 43, 44, 45, 46, 47, 48, 49, 50, 51, 52, 53, 54, 55, 56, 57, 58, 59, 60, 61, 62, 63, 64, 65, 66, 67, 68, 69, 70, 71, 72, 73, 74, 75, 76, 77, 78, 79, 80, 81, 82, 83, 84, 85, 86, 87, 88, 89, 90], [0, 1, 5, 8, 10, 11, 12, 13, 14, 15, 16, 17, 18, 19, 20, 21, 22, 23, 24, 25, 26, 27, 28, 29, 30, 31, 32, 33, 34, 35, 36, 37, 38, 39, 40, 41, 42, 43, 44, 45, 46, 47, 48, 49, 50, 51, 52, 53, 54, 55, 56, 57, 58, 59, 60, 61, 62, 63, 64, 65, 66, 67, 68, 69, 70, 71, 72, 73, 74, 75, 76, 77, 78, 79, 80, 81, 82, 83, 84, 85, 86, 87, 88, 89, 90]),
  ([38, 39, 40, 41, 42, 45, 46, 47, 48, 49, 50, 51, 52, 53, 54, 55, 56, 57, 58, 59, 60, 61, 43, 44], [0, 3, 4, 9, 11, 12, 13, 14, 15, 16, 17, 18, 19, 20, 21, 22, 23, 24, 25, 26, 27, 28, 29, 30, 31, 32, 33, 34, 35, 36, 37, 38, 39, 40, 41, 42, 43, 44, 45, 46, 47, 48, 49, 50, 51, 52, 53, 54, 55, 56, 57, 58, 59, 60, 61, 62, 63, 64, 65, 66, 67, 68, 69, 70, 71, 72, 73, 74, 75, 76, 77, 78, 79, 80, 81], [0, 3, 9, 10, 11, 12, 13, 14, 15, 16, 17, 18, 19, 20, 21, 22, 23, 24, 25, 26, 27, 28, 29, 30, 31, 32, 33, 34, 35, 36, 37, 38, 39, 40, 41, 42, 43, 44, 45, 46, 47, 48, 49, 50, 51, 52, 53, 54, 55, 56, 57, 58, 59, 60, 61, 62, 63, 64, 65, 66, 67, 68, 69, 70, 71, 72, 73, 74, 75, 76, 77, 78, 79, 80, 81]),
  ([6, 7, 8, 9, 12, 13, 14, 15, 16, 5, 17, 18, 19, 20, 10, 11], [1, 2, 5, 6, 7, 8, 9, 10, 11, 12, 13, 14, 15, 16, 17, 18, 19, 20, 21], [0, 1, 4, 5, 6, 7, 8, 9, 10, 11, 12, 13, 14, 15, 16, 17, 18, 19, 20, 21]),
  ([20, 21, 22, 9, 23, 24, 25, 26, 27, 28, 29, 30, 31, 19], [0, 1, 2, 3, 4, 5, 6, 8, 9, 10, 11, 12, 13, 14, 15, 16, 20, 21, 22, 23, 24, 25, 26, 27, 28, 29, 30, 31], [0, 1, 2, 3, 4, 5, 7, 8, 9, 10, 11, 12, 13, 14, 15, 16, 17, 18, 19, 20, 21, 22, 23, 24, 25, 26, 27, 28, 29, 30, 31]),
  ([37, 38, 39, 40, 43, 44, 45, 46, 47, 48, 49, 50, 41, 42], [0, 1, 2, 5, 6, 13, 14, 15, 16, 17, 18, 19, 20, 21, 22, 23, 24, 25, 26, 27, 28, 29, 30, 31, 32, 33, 34, 35, 36, 37, 38, 39, 40, 41, 42, 43, 44, 45, 46, 47, 48, 49, 50, 51, 52, 53, 54, 55, 56, 57, 58, 59, 60, 61, 62, 63, 64, 65, 66, 67, 68, 69, 70, 71, 72, 73, 74, 75, 76, 77, 78, 79, 80, 81, 82, 83, 84, 85, 86, 87, 88, 89, 90, 91, 92, 93, 94, 95, 96, 97, 98, 99], [0, 1, 2, 5, 12, 13, 14, 15, 16, 17, 18, 19, 20, 21, 22, 23, 24, 25, 26, 27, 28, 29, 30, 31, 32, 33, 34, 35, 36, 37, 38, 39, 40, 41, 42, 43, 44, 45, 46, 47, 48, 49, 50, 51, 52, 53, 54, 55, 56, 57, 58, 59, 60, 61, 62, 63, 64, 65, 66, 67, 68, 69, 70, 71, 72, 73, 74, 75, 76, 77, 78, 79, 80, 81, 82, 83, 84, 85, 86, 87, 88, 89, 90, 91, 92, 93, 94, 95, 96, 97, 98, 99]),
  ([11, 12, 13, 14, 17, 18, 19, 20, 21, 22, 23, 24, 25, 26, 15, 16], [2, 3, 4, 6, 7, 8, 9, 10, 11, 12, 13, 14, 15, 16, 17, 18, 19, 20, 21, 22, 23, 24, 25, 26], [0, 1, 2, 3, 5, 6, 7, 8, 9, 10, 11, 12, 13, 14, 15, 16, 17, 18, 19, 20, 21, 22, 23, 24, 25, 26]),
  ([5, 6, 7, 8, 11, 12, 13, 14, 15, 16, 17, 9, 10], [2, 5, 6, 7, 8, 9, 10, 11, 12, 13, 14, 15, 16, 17], [0, 1, 4, 5, 6, 7, 8, 9, 10, 11, 12, 13, 14, 15, 16, 17]),
  ([35, 36, 37, 38, 41, 42, 43, 44, 45, 46, 47, 48, 49, 50, 51, 52, 53, 54, 55, 56, 57, 60, 61, 62, 63, 64, 65, 66, 67, 68, 69, 70, 58, 59, 39, 40], [0, 2, 3, 4, 6, 7, 8, 9, 10, 11, 12, 13, 14, 15, 16, 17, 18, 19, 20, 21, 22, 23, 24, 25, 26, 27, 28, 29, 30, 31, 32, 33, 34, 35, 36, 37, 38, 39, 40, 41, 42, 43, 44, 45, 46, 47, 48, 49, 50, 51, 52, 53, 54, 55, 56, 57, 58, 59, 60, 61, 62, 63, 64, 65, 66, 67, 68, 69, 70], [0, 1, 2, 3, 5, 6, 7, 8, 9, 10, 11, 12, 13, 14, 15, 16, 17, 18, 19, 20, 21, 22, 23, 24, 25, 26, 27, 28, 29, 30, 31, 32, 33, 34, 35, 36, 37, 38, 39, 40, 41, 42, 43, 44, 45, 46, 47, 48, 49, 50, 51, 52, 53, 54, 55, 56, 57, 58, 59, 60, 61, 62, 63, 64, 65, 66, 67, 68, 69, 70]),
  ([55, 56, 57, 60, 61, 62, 63, 64, 65, 66, 67, 68, 69, 70, 58, 59], [0, 2, 3, 4, 7, 8, 9, 10, 11, 12, 13, 14, 15, 16, 17, 18, 19, 20, 21, 22, 23, 24, 25, 26, 27, 28, 29, 30, 31, 32, 33, 34, 35, 36, 37, 38, 39, 40, 41, 42, 43, 44, 45, 46, 47, 48, 49, 50, 51, 52, 53, 54, 55, 56, 57, 58, 59, 60, 61, 62, 63, 64, 65, 66, 67, 68, 69, 70], [0, 2, 3, 6, 7, 8, 9, 10, 11, 12, 13, 14, 15, 16, 17, 18, 19, 20, 21, 22, 23, 24, 25, 26, 27, 28, 29, 30, 31, 32, 33, 34, 35, 36, 37, 38, 39, 40, 41, 42, 43, 44, 45, 46, 47, 48, 49, 50, 51, 52, 53, 54, 55, 56, 57, 58, 59, 60, 61, 62, 63, 64, 65, 66, 67, 68, 69, 70]),
  ([10, 11, 12, 13, 16, 17, 18, 19, 22, 23, 24, 25, 26, 27, 28, 29, 30, 31, 32, 33, 34, 35, 36, 37, 38, 39, 40, 41, 42, 43, 44, 45, 46, 47, 48, 49, 20, 21, 50, 51, 52, 53, 54, 55, 56, 57, 58, 59, 60, 61, 62, 63, 14, 15], [0, 2, 3, 4, 7, 8, 9, 10, 11, 12, 13, 14, 15, 16, 17, 18, 19, 20, 21, 22, 23, 24, 25, 26, 27, 28, 29, 30, 31, 32, 33, 34, 35, 36, 37, 38, 39, 40, 41, 42, 43, 44, 45, 46, 47, 48, 49, 50, 51, 52, 53, 54, 55, 56, 57, 58, 59, 60, 61, 62, 63, 64], [0, 1, 2, 3, 6, 7, 8, 9, 10, 11, 12, 13, 14, 15, 16, 17, 18, 19, 20, 21, 22, 23, 24, 25, 26, 27, 28, 29, 30, 31, 32, 33, 34, 35, 36, 37, 38, 39, 40, 41, 42, 43, 44, 45, 46, 47, 48, 49, 50, 51, 52, 53, 54, 55, 56, 57, 58, 59, 60, 61, 62, 63, 64]),
  ([16, 17, 18, 19, 22, 23, 24, 25, 26, 27, 28, 29, 30, 31, 32, 33, 34, 35, 36, 37, 38, 39, 40, 41, 42, 43, 44, 45, 46, 47, 48, 49, 20, 21], [0, 2, 3, 4, 8, 9, 10, 11, 12, 13, 14, 15, 16, 17, 18, 19, 20, 21, 22, 23, 24, 25, 26, 27, 28, 29, 30, 31, 32, 33, 34, 35, 36, 37, 38, 39, 40, 41, 42, 43, 44, 45, 46, 47, 48, 49, 50, 51, 52, 53, 54, 55, 56, 57, 58, 59, 60, 61, 62, 63, 64], [0, 2, 3, 7, 8, 9, 10, 11, 12, 13, 14, 15, 16, 17, 18, 19, 20, 21, 22, 23, 24, 25, 26, 27, 28, 29, 30, 31, 32, 33, 34, 35, 36, 37, 38, 39, 40, 41, 42, 43, 44, 45, 46, 47, 48, 49, 50, 51, 52, 53, 54, 55, 56, 57, 58, 59, 60, 61, 62, 63, 64]),
  ([7, 8, 9, 10, 13, 14, 15, 16, 17, 18, 19, 20, 21, 22, 23, 24, 25, 26, 27, 11, 12], [0, 3, 4, 7, 8, 9, 10, 11, 12, 13, 14, 15, 16, 17, 18, 19, 20, 21, 22, 23, 24, 25, 26, 27, 28], [0, 1, 2, 3, 6, 7, 8, 9, 10, 11, 12, 13, 14, 15, 16, 17, 18, 19, 20, 21, 22, 23, 24, 25, 26, 27, 28]),
  ([48, 49, 50, 10, 51, 52, 53, 54, 55, 56, 57, 58, 59, 60, 61, 62, 63, 64, 65, 66, 67, 68, 69, 70, 71, 72, 73, 74, 47], [0, 1, 2, 3, 5, 6, 9, 10, 11, 12, 13, 14, 15, 16, 17, 18, 19, 20, 21, 22, 23, 24, 25, 26, 27, 28, 29, 30, 31, 32, 33, 34, 35, 36, 37, 38, 39, 40, 41, 42, 43, 44, 48, 49, 50, 51, 52, 53, 54, 55, 56, 57, 58, 59, 60, 61, 62, 63, 64, 65, 66, 67, 68, 69, 70, 71, 72, 73, 74, 75, 76, 77, 78, 79], [0, 1, 2, 3, 5, 7, 9, 10, 11, 12, 13, 14, 15, 16, 17, 18, 19, 20, 21, 22, 23, 24, 25, 26, 27, 28, 29, 30, 31, 32, 33, 34, 35, 36, 37, 38, 39, 40, 41, 42, 43, 44, 45, 46, 47, 48, 49, 50, 51, 52, 53, 54, 55, 56, 57, 58, 59, 60, 61, 62, 63, 64, 65, 66, 67, 68, 69, 70, 71, 72, 73, 74, 75, 76, 77, 78, 79]),
  ([14, 15, 16, 17, 18, 21, 22, 23, 24, 25, 8, 26, 27, 28, 29, 30, 31, 32, 33, 34, 37, 38, 39, 40, 41, 42, 43, 44, 45, 46, 47, 48, 49, 50, 51, 52, 53, 54, 55, 56, 57, 35, 36, 58, 59, 60, 61, 62, 63, 64, 65, 66, 67, 68, 19, 20], [0, 1, 5, 6, 8, 9, 10, 11, 12, 13, 14, 15, 16, 17, 18, 19, 20, 21, 22, 23, 24, 25, 26, 27, 28, 29, 30, 31, 32, 33, 34, 35, 36, 37, 38, 39, 40, 41, 42, 43, 44, 45, 46, 47, 48, 49, 50, 51, 52, 53, 54, 55, 56, 57, 58, 59, 60, 61, 62, 63, 64, 65, 66, 67, 68, 69, 70, 71, 72, 73, 74, 75, 76, 77, 78, 79, 80, 81, 82, 83, 84, 85, 86, 87, 88, 89, 90, 91, 92, 93, 94, 95, 96, 97, 98, 99, 100, 101, 102, 103, 104, 105, 106, 107, 108, 109, 110, 111, 112, 113, 114, 115, 116, 117, 118, 119, 120, 121, 122, 123], [0, 1, 5, 7, 8, 9, 10, 11, 12, 13, 14, 15, 16, 17, 18, 19, 20, 21, 22, 23, 24, 25, 26, 27, 28, 29, 30, 31, 32, 33, 34, 35, 36, 37, 38, 39, 40, 41, 42, 43, 44, 45, 46, 47, 48, 49, 50, 51, 52, 53, 54, 55, 56, 57, 58, 59, 60, 61, 62, 63, 64, 65, 66, 67, 68, 69, 70, 71, 72, 73, 74, 75, 76, 77, 78, 79, 80, 81, 82, 83, 84, 85, 86, 87, 88, 89, 90, 91, 92, 93, 94, 95, 96, 97, 98, 99, 100, 101, 102, 103, 104, 105, 106, 107, 108, 109, 110, 111, 112, 113, 114, 115, 116, 117, 118, 119, 120, 121, 122, 123]),
  ([31, 32, 33, 34, 37, 38, 39, 40, 41, 42, 43, 44, 45, 46, 47, 48, 49, 50, 51, 52, 53, 54, 55, 56, 57, 35, 36], [0, 1, 5, 6, 11, 12, 13, 14, 15, 16, 17, 18, 19, 20, 21, 22, 23, 24, 25, 26, 27, 28, 29, 30, 31, 32, 33, 34, 35, 36, 37, 38, 39, 40, 41, 42, 43, 44, 45, 46, 47, 48, 49, 50, 51, 52, 53, 54, 55, 56, 57, 58, 59, 60, 61, 62, 63, 64, 65, 66, 67, 68, 69, 70, 71, 72, 73, 74, 75, 76, 77, 78, 79, 80, 81, 82, 83, 84, 85, 86, 87, 88, 89, 90, 91, 92, 93, 94, 95, 96, 97, 98, 99, 100, 101, 102, 103, 104, 105, 106, 107, 108, 109, 110, 111, 112, 113, 114, 115, 116, 117, 118, 119, 120, 121, 122, 123], [0, 1, 5, 10, 11, 12, 13, 14, 15, 16, 17, 18, 19, 20, 21, 22, 23, 24, 25, 26, 27, 28, 29, 30, 31, 32, 33, 34, 35, 36, 37, 38, 39, 40, 41, 42, 43, 44, 45, 46, 47, 48, 49, 50, 51, 52, 53, 54, 55, 56, 57, 58, 59, 60, 61, 62, 63, 64, 65, 66, 67, 68, 69, 70, 71, 72, 73, 74, 75, 76, 77, 78, 79, 80, 81, 82, 83, 84, 85, 86, 87, 88, 89, 90, 91, 92, 93, 94, 95, 96, 97, 98, 99, 100, 101, 102, 103, 104, 105, 106, 107, 108, 109, 110, 111, 112, 113, 114, 115, 116, 117, 118, 119, 120, 121, 122, 123]),
  ([69, 70, 71, 72, 75, 76, 77, 78, 79, 82, 83, 84, 85, 86, 87, 88, 89, 90, 91, 92, 93, 94, 95, 96, 97, 98, 99, 100, 101, 102, 103, 104, 105, 106, 80, 81, 107, 108, 109, 110, 111, 112, 113, 114, 115, 116, 117, 118, 119, 120, 121, 122, 123, 73, 74], [0, 1, 5, 6, 7, 8, 9, 10, 12, 13, 14, 15, 16, 17, 18, 19, 20, 21, 22, 23, 24, 25, 26, 27, 28, 29, 30, 31, 32, 33, 34, 35, 36, 37, 38, 39, 40, 41, 42, 43, 44, 45, 46, 47, 48, 49, 50, 51, 52, 53, 54, 55, 56, 57, 58, 59, 60, 61, 62, 63, 64, 65, 66, 67, 68, 69, 70, 71, 72, 73, 74, 75, 76, 77, 78, 79, 80, 81, 82, 83, 84, 85, 86, 87, 88, 89, 90, 91, 92, 93, 94, 95, 96, 97, 98, 99, 100, 101, 102, 103, 104, 105, 106, 107, 108, 109, 110, 111, 112, 113, 114, 115, 116, 117, 118, 119, 120, 121, 122, 123], [0, 1, 2, 3, 4, 5, 7, 8, 9, 10, 11, 12, 13, 14, 15, 16, 17, 18, 19, 20, 21, 22, 23, 24, 25, 26, 27, 28, 29, 30, 31, 32, 33, 34, 35, 36, 37, 38, 39, 40, 41, 42, 43, 44, 45, 46, 47, 48, 49, 50, 51, 52, 53, 54, 55, 56, 57, 58, 59, 60, 61, 62, 63, 64, 65, 66, 67, 68, 69, 70, 71, 72, 73, 74, 75, 76, 77, 78, 79, 80, 81, 82, 83, 84, 85, 86, 87, 88, 89, 90, 91, 92, 93, 94, 95, 96, 97, 98, 99, 100, 101, 102, 103, 104, 105, 106, 107, 108, 109, 110, 111, 112, 113, 114, 115, 116, 117, 118, 119, 120, 121, 122, 123]),
  ([75, 76, 77, 78, 79, 82, 83, 84, 85, 86, 87, 88, 89, 90, 91, 92, 93, 94, 95, 96, 97, 98, 99, 100, 101, 102, 103, 104, 105, 106, 80, 81], [0, 1, 5, 6, 7, 8, 9, 10, 14, 15, 16, 17, 18, 19, 20, 21, 22, 23, 24, 25, 26, 27, 28, 29, 30, 31, 32, 33, 34, 35, 36, 37, 38, 39, 40, 41, 42, 43, 44, 45, 46, 47, 48, 49, 50, 51, 52, 53, 54, 55, 56, 57, 58, 59, 60, 61, 62, 63, 64, 65, 66, 67, 68, 69, 70, 71, 72, 73, 74, 75, 76, 77, 78, 79, 80, 81, 82, 83, 84, 85, 86, 87, 88, 89, 90, 91, 92, 93, 94, 95, 96, 97, 98, 99, 100, 101, 102, 103, 104, 105, 106, 107, 108, 109, 110, 111, 112, 113, 114, 115, 116, 117, 118, 119, 120, 121, 122, 123], [0, 1, 5, 7, 8, 9, 10, 13, 14, 15, 16, 17, 18, 19, 20, 21, 22, 23, 24, 25, 26, 27, 28, 29, 30, 31, 32, 33, 34, 35, 36, 37, 38, 39, 40, 41, 42, 43, 44, 45, 46, 47, 48, 49, 50, 51, 52, 53, 54, 55, 56, 57, 58, 59, 60, 61, 62, 63, 64, 65, 66, 67, 68, 69, 70, 71, 72, 73, 74, 75, 76, 77, 78, 79, 80, 81, 82, 83, 84, 85, 86, 87, 88, 89, 90, 91, 92, 93, 94, 95, 96, 97, 98, 99, 100, 101, 102, 103, 104, 105, 106, 107, 108, 109, 110, 111, 112, 113, 114, 115, 116, 117, 118, 119, 120, 121, 122, 123]),
  ([7, 8, 9, 12, 13, 14, 15, 16, 17, 18, 19, 20, 21, 22, 23, 24, 25, 26, 27, 28, 29, 30, 31, 32, 33, 10, 11], [0, 3, 4, 7, 8, 9, 10, 11, 12, 13, 14, 15, 16, 17, 18, 19, 20, 21, 22, 23, 24, 25, 26, 27, 28, 29, 30, 31, 32, 33, 34], [0, 1, 2, 3, 6, 7, 8, 9, 10, 11, 12, 13, 14, 15, 16, 17, 18, 19, 20, 21, 22, 23, 24, 25, 26, 27, 28, 29, 30, 31, 32, 33, 34]),
  ([12, 13, 14, 7, 15, 16, 17, 18, 19, 20, 21, 11], [0, 3, 4, 6, 7, 8, 12, 13, 14, 15, 16, 17, 18, 19, 20, 21, 22], [0, 1, 2, 3, 6, 7, 8, 9, 10, 11, 12, 13, 14, 15, 16, 17, 18, 19, 20, 21, 22]),
  ([7, 8, 9, 10, 11, 14, 15, 16, 17, 18, 19, 20, 21, 22, 23, 12, 13], [0, 3, 4, 7, 8, 9, 10, 11, 12, 13, 14, 15, 16, 17, 18, 19, 20, 21, 22, 23, 24], [0, 1, 2, 3, 6, 7, 8, 9, 10, 11, 12, 13, 14, 15, 16, 17, 18, 19, 20, 21, 22, 23, 24]),
  ([33, 34, 35, 36, 39, 40, 41, 42, 43, 44, 45, 46, 37, 38], [0, 1, 2, 5, 6, 8, 10, 11, 12, 13, 14, 15, 16, 17, 18, 19, 20, 21, 22, 23, 24, 25, 26, 27, 28, 29, 30, 31, 32, 33, 34, 35, 36, 37, 38, 39, 40, 41, 42, 43, 44, 45, 46, 47, 48, 49, 50, 51, 52, 53, 54, 55, 56, 57, 58, 59, 60, 61, 62, 63, 64, 65, 66, 67, 68, 69, 70, 71, 72, 73, 74, 75, 76, 77, 78, 79, 80, 81, 82, 83, 84], [0, 1, 2, 5, 7, 8, 9, 10, 11, 12, 13, 14, 15, 16, 17, 18, 19, 20, 21, 22, 23, 24, 25, 26, 27, 28, 29, 30, 31, 32, 33, 34, 35, 36, 37, 38, 39, 40, 41, 42, 43, 44, 45, 46, 47, 48, 49, 50, 51, 52, 53, 54, 55, 56, 57, 58, 59, 60, 61, 62, 63, 64, 65, 66, 67, 68, 69, 70, 71, 72, 73, 74, 75, 76, 77, 78, 79, 80, 81, 82, 83, 84]),
  ([47, 48, 49, 50, 51, 54, 55, 56, 57, 58, 12, 59, 60, 61, 62, 63, 64, 65, 66, 67, 68, 69, 70, 71, 72, 73, 74, 75, 76, 77, 78, 79, 52, 53], [0, 1, 2, 5, 6, 7, 8, 9, 12, 13, 14, 15, 16, 17, 18, 19, 20, 21, 22, 23, 24, 25, 26, 27, 28, 29, 30, 31, 32, 33, 34, 35, 36, 37, 38, 39, 40, 41, 42, 43, 44, 45, 46, 47, 48, 49, 50, 51, 52, 53, 54, 55, 56, 57, 58, 59, 60, 61, 62, 63, 64, 65, 66, 67, 68, 69, 70, 71, 72, 73, 74, 75, 76, 77, 78, 79, 80, 81, 82, 83, 84], [0, 1, 2, 3, 5, 7, 8, 9, 11, 12, 13, 14, 15, 16, 17, 18, 19, 20, 21, 22, 23, 24, 25, 26, 27, 28, 29, 30, 31, 32, 33, 34, 35, 36, 37, 38, 39, 40, 41, 42, 43, 44, 45, 46, 47, 48, 49, 50, 51, 52, 53, 54, 55, 56, 57, 58, 59, 60, 61, 62, 63, 64, 65, 66, 67, 68, 69, 70, 71, 72, 73, 74, 75, 76, 77, 78, 79, 80, 81, 82, 83, 84]),
  ([19, 20, 21, 9, 22, 23, 24, 25, 26, 27, 28, 29, 30, 31, 32, 33, 34, 35, 36, 37, 18], [0, 1, 2, 3, 5, 6, 8, 9, 10, 11, 12, 13, 14, 15, 19, 20, 21, 22, 23, 24, 25, 26, 27, 28, 29, 30, 31, 32, 33, 34, 35, 36, 37, 38, 39, 40, 41, 42, 43, 44, 45, 46, 47], [0, 1, 2, 3, 4, 5, 8, 9, 10, 11, 12, 13, 14, 15, 16, 17, 18, 19, 20, 21, 22, 23, 24, 25, 26, 27, 28, 29, 30, 31, 32, 33, 34, 35, 36, 37, 38, 39, 40, 41, 42, 43, 44, 45, 46, 47]),
  ([16, 17, 18, 19, 22, 23, 24, 25, 26, 27, 28, 29, 30, 31, 32, 33, 34, 35, 36, 37, 38, 39, 40, 41, 42, 43, 44, 45, 46, 47, 48, 49, 50, 51, 52, 53, 54, 55, 56, 57, 58, 59, 60, 61, 62, 63, 64, 65, 66, 20, 21], [0, 1, 5, 6, 10, 11, 12, 13, 14, 15, 16, 17, 18, 19, 20, 21, 22, 23, 24, 25, 26, 27, 28, 29, 30, 31, 32, 33, 34, 35, 36, 37, 38, 39, 40, 41, 42, 43, 44, 45, 46, 47, 48, 49, 50, 51, 52, 53, 54, 55, 56, 57, 58, 59, 60, 61, 62, 63, 64, 65, 66, 67], [0, 1, 2, 3, 4, 5, 8, 9, 10, 11, 12, 13, 14, 15, 16, 17, 18, 19, 20, 21, 22, 23, 24, 25, 26, 27, 28, 29, 30, 31, 32, 33, 34, 35, 36, 37, 38, 39, 40, 41, 42, 43, 44, 45, 46, 47, 48, 49, 50, 51, 52, 53, 54, 55, 56, 57, 58, 59, 60, 61, 62, 63, 64, 65, 66, 67]),
  ([12, 13, 14, 15, 19, 20, 21, 22, 23, 24, 25, 26, 18, 27, 28, 29, 30, 31, 32, 33, 34, 35, 36, 37, 38, 39, 40, 41, 42, 43, 44, 45, 46, 47, 48, 49, 50, 51, 52, 53, 54, 55, 56, 57, 58, 59, 60, 61, 62, 63, 64, 16, 17], [0, 1, 5, 6, 9, 10, 11, 12, 13, 14, 15, 16, 17, 18, 19, 20, 21, 22, 23, 24, 25, 26, 27, 28, 29, 30, 31, 32, 33, 34, 35, 36, 37, 38, 39, 40, 41, 42, 43, 44, 45, 46, 47, 48, 49, 50, 51, 52, 53, 54, 55, 56, 57, 58, 59, 60, 61, 62, 63, 64, 65], [0, 1, 2, 3, 4, 5, 8, 9, 10, 11, 12, 13, 14, 15, 16, 17, 18, 19, 20, 21, 22, 23, 24, 25, 26, 27, 28, 29, 30, 31, 32, 33, 34, 35, 36, 37, 38, 39, 40, 41, 42, 43, 44, 45, 46, 47, 48, 49, 50, 51, 52, 53, 54, 55, 56, 57, 58, 59, 60, 61, 62, 63, 64, 65]),
  ([6, 7, 8, 9, 10, 11, 12, 13, 14, 15, 16, 17, 5], [1, 2, 4, 6, 7, 8, 9, 10, 11, 12, 13, 14, 15, 16, 17, 18, 19], [0, 1, 4, 5, 6, 7, 8, 9, 10, 11, 12, 13, 14, 15, 16, 17, 18, 19]),
  ([33, 34, 35, 5, 36, 37, 38, 39, 40, 41, 42, 43, 44, 32], [0, 1, 2, 4, 5, 6, 7, 8, 9, 10, 11, 12, 13, 14, 15, 16, 17, 18, 19, 20, 21, 22, 23, 24, 25, 26, 27, 28, 29, 33, 34, 35, 36, 37, 38, 39, 40, 41, 42, 43, 44, 45], [0, 1, 4, 5, 6, 7, 8, 9, 10, 11, 12, 13, 14, 15, 16, 17, 18, 19, 20, 21, 22, 23, 24, 25, 26, 27, 28, 29, 30, 31, 32, 33, 34, 35, 36, 37, 38, 39, 40, 41, 42, 43, 44, 45]),
  ([6, 7, 10, 11, 12, 13, 14, 15, 16, 17, 18, 19, 8, 9], [1, 2, 6, 7, 8, 9, 10, 11, 12, 13, 14, 15, 16, 17, 18, 19, 20], [0, 1, 3, 5, 6, 7, 8, 9, 10, 11, 12, 13, 14, 15, 16, 17, 18, 19, 20]),
  ([13, 14, 15, 16, 19, 20, 21, 22, 23, 24, 25, 28, 29, 30, 31, 32, 33, 34, 35, 36, 37, 38, 39, 40, 41, 42, 43, 44, 26, 27, 45, 46, 47, 48, 49, 50, 51, 52, 53, 54, 55, 56, 57, 58, 59, 60, 61, 62, 65, 66, 67, 68, 69, 70, 71, 72, 73, 74, 75, 76, 63, 64, 17, 18], [1, 2, 4, 5, 6, 7, 8, 9, 10, 11, 12, 13, 14, 15, 16, 17, 18, 19, 20, 21, 22, 23, 24, 25, 26, 27, 28, 29, 30, 31, 32, 33, 34, 35, 36, 37, 38, 39, 40, 41, 42, 43, 44, 45, 46, 47, 48, 49, 50, 51, 52, 53, 54, 55, 56, 57, 58, 59, 60, 61, 62, 63, 64, 65, 66, 67, 68, 69, 70, 71, 72, 73, 74, 75, 76, 77, 78, 79, 80, 81, 82, 83, 84, 85, 86, 87, 88, 89, 90, 91, 92, 93, 94, 95, 96, 97, 98, 99, 100, 101, 102, 103, 104, 105, 106, 107, 108, 109, 110, 111, 112, 113, 114, 115, 116, 117, 118, 119, 120, 121, 122, 123, 124, 125, 126, 127, 128, 129, 130, 131, 132, 133, 134, 135, 136, 137, 138, 139, 140, 141, 142, 143, 144, 145, 146, 147, 148, 149, 150, 151, 152], [1, 3, 4, 5, 6, 7, 8, 9, 10, 11, 12, 13, 14, 15, 16, 17, 18, 19, 20, 21, 22, 23, 24, 25, 26, 27, 28, 29, 30, 31, 32, 33, 34, 35, 36, 37, 38, 39, 40, 41, 42, 43, 44, 45, 46, 47, 48, 49, 50, 51, 52, 53, 54, 55, 56, 57, 58, 59, 60, 61, 62, 63, 64, 65, 66, 67, 68, 69, 70, 71, 72, 73, 74, 75, 76, 77, 78, 79, 80, 81, 82, 83, 84, 85, 86, 87, 88, 89, 90, 91, 92, 93, 94, 95, 96, 97, 98, 99, 100, 101, 102, 103, 104, 105, 106, 107, 108, 109, 110, 111, 112, 113, 114, 115, 116, 117, 118, 119, 120, 121, 122, 123, 124, 125, 126, 127, 128, 129, 130, 131, 132, 133, 134, 135, 136, 137, 138, 139, 140, 141, 142, 143, 144, 145, 146, 147, 148, 149, 150, 151, 152]),
  ([19, 20, 21, 22, 23, 24, 25, 28, 29, 30, 31, 32, 33, 34, 35, 36, 37, 38, 39, 40, 41, 42, 43, 44, 26, 27], [1, 2, 5, 6, 7, 8, 9, 10, 11, 12, 13, 14, 15, 16, 17, 18, 19, 20, 21, 22, 23, 24, 25, 26, 27, 28, 29, 30, 31, 32, 33, 34, 35, 36, 37, 38, 39, 40, 41, 42, 43, 44, 45, 46, 47, 48, 49, 50, 51, 52, 53, 54, 55, 56, 57, 58, 59, 60, 61, 62, 63, 64, 65, 66, 67, 68, 69, 70, 71, 72, 73, 74, 75, 76, 77, 78, 79, 80, 81, 82, 83, 84, 85, 86, 87, 88, 89, 90, 91, 92, 93, 94, 95, 96, 97, 98, 99, 100, 101, 102, 103, 104, 105, 106, 107, 108, 109, 110, 111, 112, 113, 114, 115, 116, 117, 118, 119, 120, 121, 122, 123, 124, 125, 126, 127, 128, 129, 130, 131, 132, 133, 134, 135, 136, 137, 138, 139, 140, 141, 142, 143, 144, 145, 146, 147, 148, 149, 150, 151, 152], [1, 4, 5, 6, 7, 8, 9, 10, 11, 12, 13, 14, 15, 16, 17, 18, 19, 20, 21, 22, 23, 24, 25, 26, 27, 28, 29, 30, 31, 32, 33, 34, 35, 36, 37, 38, 39, 40, 41, 42, 43, 44, 45, 46, 47, 48, 49, 50, 51, 52, 53, 54, 55, 56, 57, 58, 59, 60, 61, 62, 63, 64, 65, 66, 67, 68, 69, 70, 71, 72, 73, 74, 75, 76, 77, 78, 79, 80, 81, 82, 83, 84, 85, 86, 87, 88, 89, 90, 91, 92, 93, 94, 95, 96, 97, 98, 99, 100, 101, 102, 103, 104, 105, 106, 107, 108, 109, 110, 111, 112, 113, 114, 115, 116, 117, 118, 119, 120, 121, 122, 123, 124, 125, 126, 127, 128, 129, 130, 131, 132, 133, 134, 135, 136, 137, 138, 139, 140, 141, 142, 143, 144, 145, 146, 147, 148, 149, 150, 151, 152]),
  ([55, 56, 57, 58, 59, 60, 61, 62, 65, 66, 67, 68, 69, 70, 71, 72, 73, 74, 75, 76, 63, 64], [1, 2, 4, 5, 8, 9, 10, 11, 12, 13, 14, 15, 16, 17, 18, 19, 20, 21, 22, 23, 24, 25, 26, 27, 28, 29, 30, 31, 32, 33, 34, 35, 36, 37, 38, 39, 40, 41, 42, 43, 44, 45, 46, 47, 48, 49, 50, 51, 52, 53, 54, 55, 56, 57, 58, 59, 60, 61, 62, 63, 64, 65, 66, 67, 68, 69, 70, 71, 72, 73, 74, 75, 76, 77, 78, 79, 80, 81, 82, 83, 84, 85, 86, 87, 88, 89, 90, 91, 92, 93, 94, 95, 96, 97, 98, 99, 100, 101, 102, 103, 104, 105, 106, 107, 108, 109, 110, 111, 112, 113, 114, 115, 116, 117, 118, 119, 120, 121, 122, 123, 124, 125, 126, 127, 128, 129, 130, 131, 132, 133, 134, 135, 136, 137, 138, 139, 140, 141, 142, 143, 144, 145, 146, 147, 148, 149, 150, 151, 152], [1, 4, 5, 6, 7, 8, 9, 10, 11, 12, 13, 14, 15, 16, 17, 18, 19, 20, 21, 22, 23, 24, 25, 26, 27, 28, 29, 30, 31, 32, 33, 34, 35, 36, 37, 38, 39, 40, 41, 42, 43, 44, 45, 46, 47, 48, 49, 50, 51, 52, 53, 54, 55, 56, 57, 58, 59, 60, 61, 62, 63, 64, 65, 66, 67, 68, 69, 70, 71, 72, 73, 74, 75, 76, 77, 78, 79, 80, 81, 82, 83, 84, 85, 86, 87, 88, 89, 90, 91, 92, 93, 94, 95, 96, 97, 98, 99, 100, 101, 102, 103, 104, 105, 106, 107, 108, 109, 110, 111, 112, 113, 114, 115, 116, 117, 118, 119, 120, 121, 122, 123, 124, 125, 126, 127, 128, 129, 130, 131, 132, 133, 134, 135, 136, 137, 138, 139, 140, 141, 142, 143, 144, 145, 146, 147, 148, 149, 150, 151, 152]),
  ([77, 78, 79, 80, 83, 84, 85, 86, 87, 88, 89, 92, 93, 94, 95, 96, 97, 98, 99, 100, 101, 102, 103, 104, 105, 106, 107, 108, 109, 110, 111, 112, 113, 114, 90, 91, 115, 116, 117, 118, 119, 120, 121, 122, 123, 124, 125, 126, 127, 128, 129, 130, 131, 132, 135, 136, 137, 138, 139, 140, 141, 142, 143, 144, 145, 146, 147, 148, 149, 150, 151, 152, 133, 134, 81, 82], [1, 2, 3, 4, 5, 6, 7, 9, 10, 11, 12, 13, 14, 15, 16, 17, 18, 19, 20, 21, 22, 23, 24, 25, 26, 27, 28, 29, 30, 31, 32, 33, 34, 35, 36, 37, 38, 39, 40, 41, 42, 43, 44, 45, 46, 47, 48, 49, 50, 51, 52, 53, 54, 55, 56, 57, 58, 59, 60, 61, 62, 63, 64, 65, 66, 67, 68, 69, 70, 71, 72, 73, 74, 75, 76, 77, 78, 79, 80, 81, 82, 83, 84, 85, 86, 87, 88, 89, 90, 91, 92, 93, 94, 95, 96, 97, 98, 99, 100, 101, 102, 103, 104, 105, 106, 107, 108, 109, 110, 111, 112, 113, 114, 115, 116, 117, 118, 119, 120, 121, 122, 123, 124, 125, 126, 127, 128, 129, 130, 131, 132, 133, 134, 135, 136, 137, 138, 139, 140, 141, 142, 143, 144, 145, 146, 147, 148, 149, 150, 151, 152], [0, 1, 3, 4, 5, 6, 7, 8, 9, 10, 11, 12, 13, 14, 15, 16, 17, 18, 19, 20, 21, 22, 23, 24, 25, 26, 27, 28, 29, 30, 31, 32, 33, 34, 35, 36, 37, 38, 39, 40, 41, 42, 43, 44, 45, 46, 47, 48, 49, 50, 51, 52, 53, 54, 55, 56, 57, 58, 59, 60, 61, 62, 63, 64, 65, 66, 67, 68, 69, 70, 71, 72, 73, 74, 75, 76, 77, 78, 79, 80, 81, 82, 83, 84, 85, 86, 87, 88, 89, 90, 91, 92, 93, 94, 95, 96, 97, 98, 99, 100, 101, 102, 103, 104, 105, 106, 107, 108, 109, 110, 111, 112, 113, 114, 115, 116, 117, 118, 119, 120, 121, 122, 123, 124, 125, 126, 127, 128, 129, 130, 131, 132, 133, 134, 135, 136, 137, 138, 139, 140, 141, 142, 143, 144, 145, 146, 147, 148, 149, 150, 151, 152]),
  ([83, 84, 85, 86, 87, 88, 89, 92, 93, 94, 95, 96, 97, 98, 99, 100, 101, 102, 103, 104, 105, 106, 107, 108, 109, 110, 111, 112, 113, 114, 90, 91], [1, 2, 3, 4, 5, 6, 7, 10, 11, 12, 13, 14, 15, 16, 17, 18, 19, 20, 21, 22, 23, 24, 25, 26, 27, 28, 29, 30, 31, 32, 33, 34, 35, 36, 37, 38, 39, 40, 41, 42, 43, 44, 45, 46, 47, 48, 49, 50, 51, 52, 53, 54, 55, 56, 57, 58, 59, 60, 61, 62, 63, 64, 65, 66, 67, 68, 69, 70, 71, 72, 73, 74, 75, 76, 77, 78, 79, 80, 81, 82, 83, 84, 85, 86, 87, 88, 89, 90, 91, 92, 93, 94, 95, 96, 97, 98, 99, 100, 101, 102, 103, 104, 105, 106, 107, 108, 109, 110, 111, 112, 113, 114, 115, 116, 117, 118, 119, 120, 121, 122, 123, 124, 125, 126, 127, 128, 129, 130, 131, 132, 133, 134, 135, 136, 137, 138, 139, 140, 141, 142, 143, 144, 145, 146, 147, 148, 149, 150, 151, 152], [1, 3, 4, 5, 6, 7, 9, 10, 11, 12, 13, 14, 15, 16, 17, 18, 19, 20, 21, 22, 23, 24, 25, 26, 27, 28, 29, 30, 31, 32, 33, 34, 35, 36, 37, 38, 39, 40, 41, 42, 43, 44, 45, 46, 47, 48, 49, 50, 51, 52, 53, 54, 55, 56, 57, 58, 59, 60, 61, 62, 63, 64, 65, 66, 67, 68, 69, 70, 71, 72, 73, 74, 75, 76, 77, 78, 79, 80, 81, 82, 83, 84, 85, 86, 87, 88, 89, 90, 91, 92, 93, 94, 95, 96, 97, 98, 99, 100, 101, 102, 103, 104, 105, 106, 107, 108, 109, 110, 111, 112, 113, 114, 115, 116, 117, 118, 119, 120, 121, 122, 123, 124, 125, 126, 127, 128, 129, 130, 131, 132, 133, 134, 135, 136, 137, 138, 139, 140, 141, 142, 143, 144, 145, 146, 147, 148, 149, 150, 151, 152]),
  ([125, 126, 127, 128, 129, 130, 131, 132, 135, 136, 137, 138, 139, 140, 141, 142, 143, 144, 145, 146, 147, 148, 149, 150, 151, 152, 133, 134], [1, 2, 3, 4, 5, 6, 7, 9, 10, 13, 14, 15, 16, 17, 18, 19, 20, 21, 22, 23, 24, 25, 26, 27, 28, 29, 30, 31, 32, 33, 34, 35, 36, 37, 38, 39, 40, 41, 42, 43, 44, 45, 46, 47, 48, 49, 50, 51, 52, 53, 54, 55, 56, 57, 58, 59, 60, 61, 62, 63, 64, 65, 66, 67, 68, 69, 70, 71, 72, 73, 74, 75, 76, 77, 78, 79, 80, 81, 82, 83, 84, 85, 86, 87, 88, 89, 90, 91, 92, 93, 94, 95, 96, 97, 98, 99, 100, 101, 102, 103, 104, 105, 106, 107, 108, 109, 110, 111, 112, 113, 114, 115, 116, 117, 118, 119, 120, 121, 122, 123, 124, 125, 126, 127, 128, 129, 130, 131, 132, 133, 134, 135, 136, 137, 138, 139, 140, 141, 142, 143, 144, 145, 146, 147, 148, 149, 150, 151, 152], [1, 3, 4, 5, 6, 7, 9, 10, 11, 12, 13, 14, 15, 16, 17, 18, 19, 20, 21, 22, 23, 24, 25, 26, 27, 28, 29, 30, 31, 32, 33, 34, 35, 36, 37, 38, 39, 40, 41, 42, 43, 44, 45, 46, 47, 48, 49, 50, 51, 52, 53, 54, 55, 56, 57, 58, 59, 60, 61, 62, 63, 64, 65, 66, 67, 68, 69, 70, 71, 72, 73, 74, 75, 76, 77, 78, 79, 80, 81, 82, 83, 84, 85, 86, 87, 88, 89, 90, 91, 92, 93, 94, 95, 96, 97, 98, 99, 100, 101, 102, 103, 104, 105, 106, 107, 108, 109, 110, 111, 112, 113, 114, 115, 116, 117, 118, 119, 120, 121, 122, 123, 124, 125, 126, 127, 128, 129, 130, 131, 132, 133, 134, 135, 136, 137, 138, 139, 140, 141, 142, 143, 144, 145, 146, 147, 148, 149, 150, 151, 152]),
  ([7, 8, 9, 10, 13, 14, 15, 16, 17, 18, 19, 22, 23, 24, 25, 26, 27, 28, 29, 30, 31, 32, 33, 34, 35, 36, 37, 38, 39, 40, 20, 21, 11, 12], [1, 2, 4, 5, 6, 7, 8, 9, 10, 11, 12, 13, 14, 15, 16, 17, 18, 19, 20, 21, 22, 23, 24, 25, 26, 27, 28, 29, 30, 31, 32, 33, 34, 35, 36, 37, 38, 39, 40, 41, 42, 43, 44, 45, 46, 47, 48, 49, 50, 51, 52, 53, 54, 55, 56, 57, 58, 59, 60, 61, 62, 63, 64, 65, 66, 67, 68, 69, 70, 71, 72, 73, 74, 75, 76, 77, 78, 79, 80], [1, 3, 4, 5, 6, 7, 8, 9, 10, 11, 12, 13, 14, 15, 16, 17, 18, 19, 20, 21, 22, 23, 24, 25, 26, 27, 28, 29, 30, 31, 32, 33, 34, 35, 36, 37, 38, 39, 40, 41, 42, 43, 44, 45, 46, 47, 48, 49, 50, 51, 52, 53, 54, 55, 56, 57, 58, 59, 60, 61, 62, 63, 64, 65, 66, 67, 68, 69, 70, 71, 72, 73, 74, 75, 76, 77, 78, 79, 80]),
  ([13, 14, 15, 16, 17, 18, 19, 22, 23, 24, 25, 26, 27, 28, 29, 30, 31, 32, 33, 34, 35, 36, 37, 38, 39, 40, 20, 21], [1, 2, 5, 6, 7, 8, 9, 10, 11, 12, 13, 14, 15, 16, 17, 18, 19, 20, 21, 22, 23, 24, 25, 26, 27, 28, 29, 30, 31, 32, 33, 34, 35, 36, 37, 38, 39, 40, 41, 42, 43, 44, 45, 46, 47, 48, 49, 50, 51, 52, 53, 54, 55, 56, 57, 58, 59, 60, 61, 62, 63, 64, 65, 66, 67, 68, 69, 70, 71, 72, 73, 74, 75, 76, 77, 78, 79, 80], [1, 4, 5, 6, 7, 8, 9, 10, 11, 12, 13, 14, 15, 16, 17, 18, 19, 20, 21, 22, 23, 24, 25, 26, 27, 28, 29, 30, 31, 32, 33, 34, 35, 36, 37, 38, 39, 40, 41, 42, 43, 44, 45, 46, 47, 48, 49, 50, 51, 52, 53, 54, 55, 56, 57, 58, 59, 60, 61, 62, 63, 64, 65, 66, 67, 68, 69, 70, 71, 72, 73, 74, 75, 76, 77, 78, 79, 80]),
  ([41, 42, 43, 44, 47, 48, 49, 50, 51, 52, 53, 56, 57, 58, 59, 60, 61, 62, 63, 64, 65, 66, 67, 68, 69, 70, 71, 72, 73, 74, 75, 76, 77, 78, 79, 80, 54, 55, 45, 46], [1, 2, 3, 4, 6, 7, 8, 9, 10, 11, 12, 13, 14, 15, 16, 17, 18, 19, 20, 21, 22, 23, 24, 25, 26, 27, 28, 29, 30, 31, 32, 33, 34, 35, 36, 37, 38, 39, 40, 41, 42, 43, 44, 45, 46, 47, 48, 49, 50, 51, 52, 53, 54, 55, 56, 57, 58, 59, 60, 61, 62, 63, 64, 65, 66, 67, 68, 69, 70, 71, 72, 73, 74, 75, 76, 77, 78, 79, 80], [0, 1, 3, 4, 5, 6, 7, 8, 9, 10, 11, 12, 13, 14, 15, 16, 17, 18, 19, 20, 21, 22, 23, 24, 25, 26, 27, 28, 29, 30, 31, 32, 33, 34, 35, 36, 37, 38, 39, 40, 41, 42, 43, 44, 45, 46, 47, 48, 49, 50, 51, 52, 53, 54, 55, 56, 57, 58, 59, 60, 61, 62, 63, 64, 65, 66, 67, 68, 69, 70, 71, 72, 73, 74, 75, 76, 77, 78, 79, 80]),
  ([47, 48, 49, 50, 51, 52, 53, 56, 57, 58, 59, 60, 61, 62, 63, 64, 65, 66, 67, 68, 69, 70, 71, 72, 73, 74, 75, 76, 77, 78, 79, 80, 54, 55], [1, 2, 3, 4, 7, 8, 9, 10, 11, 12, 13, 14, 15, 16, 17, 18, 19, 20, 21, 22, 23, 24, 25, 26, 27, 28, 29, 30, 31, 32, 33, 34, 35, 36, 37, 38, 39, 40, 41, 42, 43, 44, 45, 46, 47, 48, 49, 50, 51, 52, 53, 54, 55, 56, 57, 58, 59, 60, 61, 62, 63, 64, 65, 66, 67, 68, 69, 70, 71, 72, 73, 74, 75, 76, 77, 78, 79, 80], [1, 3, 4, 6, 7, 8, 9, 10, 11, 12, 13, 14, 15, 16, 17, 18, 19, 20, 21, 22, 23, 24, 25, 26, 27, 28, 29, 30, 31, 32, 33, 34, 35, 36, 37, 38, 39, 40, 41, 42, 43, 44, 45, 46, 47, 48, 49, 50, 51, 52, 53, 54, 55, 56, 57, 58, 59, 60, 61, 62, 63, 64, 65, 66, 67, 68, 69, 70, 71, 72, 73, 74, 75, 76, 77, 78, 79, 80]),
  ([12, 13, 14, 15, 18, 19, 20, 21, 22, 23, 24, 27, 28, 29, 30, 31, 32, 33, 34, 35, 25, 26, 16, 17], [1, 2, 4, 5, 6, 7, 8, 9, 10, 11, 12, 13, 14, 15, 16, 17, 18, 19, 20, 21, 22, 23, 24, 25, 26, 27, 28, 29, 30, 31, 32, 33, 34, 35, 36, 37, 38, 39, 40, 41, 42, 43, 44, 45, 46, 47, 48, 49, 50, 51, 52, 53, 54, 55, 56, 57, 58, 59, 60, 61, 62, 63, 64, 65, 66, 67, 68, 69, 70, 71, 72, 73, 74, 75, 76, 77, 78, 79, 80, 81, 82, 83, 84, 85, 86, 87, 88, 89, 90, 91, 92, 93, 94, 95, 96, 97, 98, 99, 100, 101, 102, 103, 104, 105, 106, 107, 108, 109, 110, 111, 112], [1, 3, 4, 5, 6, 7, 8, 9, 10, 11, 12, 13, 14, 15, 16, 17, 18, 19, 20, 21, 22, 23, 24, 25, 26, 27, 28, 29, 30, 31, 32, 33, 34, 35, 36, 37, 38, 39, 40, 41, 42, 43, 44, 45, 46, 47, 48, 49, 50, 51, 52, 53, 54, 55, 56, 57, 58, 59, 60, 61, 62, 63, 64, 65, 66, 67, 68, 69, 70, 71, 72, 73, 74, 75, 76, 77, 78, 79, 80, 81, 82, 83, 84, 85, 86, 87, 88, 89, 90, 91, 92, 93, 94, 95, 96, 97, 98, 99, 100, 101, 102, 103, 104, 105, 106, 107, 108, 109, 110, 111, 112]),
  ([18, 19, 20, 21, 22, 23, 24, 27, 28, 29, 30, 31, 32, 33, 34, 35, 25, 26], [1, 2, 5, 6, 7, 8, 9, 10, 11, 12, 13, 14, 15, 16, 17, 18, 19, 20, 21, 22, 23, 24, 25, 26, 27, 28, 29, 30, 31, 32, 33, 34, 35, 36, 37, 38, 39, 40, 41, 42, 43, 44, 45, 46, 47, 48, 49, 50, 51, 52, 53, 54, 55, 56, 57, 58, 59, 60, 61, 62, 63, 64, 65, 66, 67, 68, 69, 70, 71, 72, 73, 74, 75, 76, 77, 78, 79, 80, 81, 82, 83, 84, 85, 86, 87, 88, 89, 90, 91, 92, 93, 94, 95, 96, 97, 98, 99, 100, 101, 102, 103, 104, 105, 106, 107, 108, 109, 110, 111, 112], [1, 4, 5, 6, 7, 8, 9, 10, 11, 12, 13, 14, 15, 16, 17, 18, 19, 20, 21, 22, 23, 24, 25, 26, 27, 28, 29, 30, 31, 32, 33, 34, 35, 36, 37, 38, 39, 40, 41, 42, 43, 44, 45, 46, 47, 48, 49, 50, 51, 52, 53, 54, 55, 56, 57, 58, 59, 60, 61, 62, 63, 64, 65, 66, 67, 68, 69, 70, 71, 72, 73, 74, 75, 76, 77, 78, 79, 80, 81, 82, 83, 84, 85, 86, 87, 88, 89, 90, 91, 92, 93, 94, 95, 96, 97, 98, 99, 100, 101, 102, 103, 104, 105, 106, 107, 108, 109, 110, 111, 112]),
  ([36, 37, 38, 39, 42, 43, 44, 45, 46, 47, 50, 51, 52, 53, 54, 55, 56, 57, 58, 59, 60, 61, 48, 49, 62, 63, 64, 65, 40, 41], [1, 2, 3, 4, 7, 8, 9, 10, 11, 12, 13, 14, 15, 16, 17, 18, 19, 20, 21, 22, 23, 24, 25, 26, 27, 28, 29, 30, 31, 32, 33, 34, 35, 36, 37, 38, 39, 40, 41, 42, 43, 44, 45, 46, 47, 48, 49, 50, 51, 52, 53, 54, 55, 56, 57, 58, 59, 60, 61, 62, 63, 64, 65, 66, 67, 68, 69, 70, 71, 72, 73, 74, 75, 76, 77, 78, 79, 80, 81, 82, 83, 84, 85, 86, 87, 88, 89, 90, 91, 92, 93, 94, 95, 96, 97, 98, 99, 100, 101, 102, 103, 104, 105, 106, 107, 108, 109, 110, 111, 112], [1, 3, 4, 6, 7, 8, 9, 10, 11, 12, 13, 14, 15, 16, 17, 18, 19, 20, 21, 22, 23, 24, 25, 26, 27, 28, 29, 30, 31, 32, 33, 34, 35, 36, 37, 38, 39, 40, 41, 42, 43, 44, 45, 46, 47, 48, 49, 50, 51, 52, 53, 54, 55, 56, 57, 58, 59, 60, 61, 62, 63, 64, 65, 66, 67, 68, 69, 70, 71, 72, 73, 74, 75, 76, 77, 78, 79, 80, 81, 82, 83, 84, 85, 86, 87, 88, 89, 90, 91, 92, 93, 94, 95, 96, 97, 98, 99, 100, 101, 102, 103, 104, 105, 106, 107, 108, 109, 110, 111, 112]),
  ([46, 47, 50, 51, 52, 53, 54, 55, 56, 57, 58, 59, 60, 61, 48, 49], [1, 2, 3, 4, 9, 10, 11, 12, 13, 14, 15, 16, 17, 18, 19, 20, 21, 22, 23, 24, 25, 26, 27, 28, 29, 30, 31, 32, 33, 34, 35, 36, 37, 38, 39, 40, 41, 42, 43, 44, 45, 46, 47, 48, 49, 50, 51, 52, 53, 54, 55, 56, 57, 58, 59, 60, 61, 62, 63, 64, 65, 66, 67, 68, 69, 70, 71, 72, 73, 74, 75, 76, 77, 78, 79, 80, 81, 82, 83, 84, 85, 86, 87, 88, 89, 90, 91, 92, 93, 94, 95, 96, 97, 98, 99, 100, 101, 102, 103, 104, 105, 106, 107, 108, 109, 110, 111, 112], [1, 3, 4, 8, 9, 10, 11, 12, 13, 14, 15, 16, 17, 18, 19, 20, 21, 22, 23, 24, 25, 26, 27, 28, 29, 30, 31, 32, 33, 34, 35, 36, 37, 38, 39, 40, 41, 42, 43, 44, 45, 46, 47, 48, 49, 50, 51, 52, 53, 54, 55, 56, 57, 58, 59, 60, 61, 62, 63, 64, 65, 66, 67, 68, 69, 70, 71, 72, 73, 74, 75, 76, 77, 78, 79, 80, 81, 82, 83, 84, 85, 86, 87, 88, 89, 90, 91, 92, 93, 94, 95, 96, 97, 98, 99, 100, 101, 102, 103, 104, 105, 106, 107, 108, 109, 110, 111, 112]),
  ([66, 67, 68, 69, 72, 73, 74, 75, 76, 77, 78, 81, 82, 83, 84, 85, 86, 87, 88, 89, 90, 91, 92, 93, 94, 95, 96, 97, 98, 99, 100, 101, 102, 103, 104, 105, 106, 107, 108, 109, 110, 111, 112, 79, 80, 70, 71], [1, 2, 3, 4, 6, 7, 8, 10, 11, 12, 13, 14, 15, 16, 17, 18, 19, 20, 21, 22, 23, 24, 25, 26, 27, 28, 29, 30, 31, 32, 33, 34, 35, 36, 37, 38, 39, 40, 41, 42, 43, 44, 45, 46, 47, 48, 49, 50, 51, 52, 53, 54, 55, 56, 57, 58, 59, 60, 61, 62, 63, 64, 65, 66, 67, 68, 69, 70, 71, 72, 73, 74, 75, 76, 77, 78, 79, 80, 81, 82, 83, 84, 85, 86, 87, 88, 89, 90, 91, 92, 93, 94, 95, 96, 97, 98, 99, 100, 101, 102, 103, 104, 105, 106, 107, 108, 109, 110, 111, 112], [0, 1, 3, 4, 5, 6, 7, 8, 9, 10, 11, 12, 13, 14, 15, 16, 17, 18, 19, 20, 21, 22, 23, 24, 25, 26, 27, 28, 29, 30, 31, 32, 33, 34, 35, 36, 37, 38, 39, 40, 41, 42, 43, 44, 45, 46, 47, 48, 49, 50, 51, 52, 53, 54, 55, 56, 57, 58, 59, 60, 61, 62, 63, 64, 65, 66, 67, 68, 69, 70, 71, 72, 73, 74, 75, 76, 77, 78, 79, 80, 81, 82, 83, 84, 85, 86, 87, 88, 89, 90, 91, 92, 93, 94, 95, 96, 97, 98, 99, 100, 101, 102, 103, 104, 105, 106, 107, 108, 109, 110, 111, 112]),
  ([72, 73, 74, 75, 76, 77, 78, 81, 82, 83, 84, 85, 86, 87, 88, 89, 90, 91, 92, 93, 94, 95, 96, 97, 98, 99, 100, 101, 102, 103, 104, 105, 106, 107, 108, 109, 110, 111, 112, 79, 80], [1, 2, 3, 4, 6, 7, 8, 11, 12, 13, 14, 15, 16, 17, 18, 19, 20, 21, 22, 23, 24, 25, 26, 27, 28, 29, 30, 31, 32, 33, 34, 35, 36, 37, 38, 39, 40, 41, 42, 43, 44, 45, 46, 47, 48, 49, 50, 51, 52, 53, 54, 55, 56, 57, 58, 59, 60, 61, 62, 63, 64, 65, 66, 67, 68, 69, 70, 71, 72, 73, 74, 75, 76, 77, 78, 79, 80, 81, 82, 83, 84, 85, 86, 87, 88, 89, 90, 91, 92, 93, 94, 95, 96, 97, 98, 99, 100, 101, 102, 103, 104, 105, 106, 107, 108, 109, 110, 111, 112], [1, 3, 4, 6, 7, 8, 10, 11, 12, 13, 14, 15, 16, 17, 18, 19, 20, 21, 22, 23, 24, 25, 26, 27, 28, 29, 30, 31, 32, 33, 34, 35, 36, 37, 38, 39, 40, 41, 42, 43, 44, 45, 46, 47, 48, 49, 50, 51, 52, 53, 54, 55, 56, 57, 58, 59, 60, 61, 62, 63, 64, 65, 66, 67, 68, 69, 70, 71, 72, 73, 74, 75, 76, 77, 78, 79, 80, 81, 82, 83, 84, 85, 86, 87, 88, 89, 90, 91, 92, 93, 94, 95, 96, 97, 98, 99, 100, 101, 102, 103, 104, 105, 106, 107, 108, 109, 110, 111, 112]),
  ([66, 67, 68, 69, 72, 73, 74, 75, 76, 77, 78, 81, 82, 83, 11, 84, 85, 86, 87, 88, 89, 90, 91, 92, 93, 94, 95, 96, 97, 98, 99, 100, 101, 102, 103, 104, 105, 106, 107, 108, 109, 110, 111, 112, 79, 80, 70, 71], [1, 2, 3, 4, 6, 7, 8, 10, 11, 12, 13, 14, 15, 16, 17, 18, 19, 20, 21, 22, 23, 24, 25, 26, 27, 28, 29, 30, 31, 32, 33, 34, 35, 36, 37, 38, 39, 40, 41, 42, 43, 44, 45, 46, 47, 48, 49, 50, 51, 52, 53, 54, 55, 56, 57, 58, 59, 60, 61, 62, 63, 64, 65, 66, 67, 68, 69, 70, 71, 72, 73, 74, 75, 76, 77, 78, 79, 80, 81, 82, 83, 84, 85, 86, 87, 88, 89, 90, 91, 92, 93, 94, 95, 96, 97, 98, 99, 100, 101, 102, 103, 104, 105, 106, 107, 108, 109, 110, 111, 112], [0, 1, 3, 4, 5, 6, 7, 8, 9, 10, 11, 12, 13, 14, 15, 16, 17, 18, 19, 20, 21, 22, 23, 24, 25, 26, 27, 28, 29, 30, 31, 32, 33, 34, 35, 36, 37, 38, 39, 40, 41, 42, 43, 44, 45, 46, 47, 48, 49, 50, 51, 52, 53, 54, 55, 56, 57, 58, 59, 60, 61, 62, 63, 64, 65, 66, 67, 68, 69, 70, 71, 72, 73, 74, 75, 76, 77, 78, 79, 80, 81, 82, 83, 84, 85, 86, 87, 88, 89, 90, 91, 92, 93, 94, 95, 96, 97, 98, 99, 100, 101, 102, 103, 104, 105, 106, 107, 108, 109, 110, 111, 112]),
  ([72, 73, 74, 75, 76, 77, 78, 81, 82, 83, 11, 84, 85, 86, 87, 88, 89, 90, 91, 92, 93, 94, 95, 96, 97, 98, 99, 100, 101, 102, 103, 104, 105, 106, 107, 108, 109, 110, 111, 112, 79, 80], [1, 2, 3, 4, 6, 7, 8, 11, 12, 13, 14, 15, 16, 17, 18, 19, 20, 21, 22, 23, 24, 25, 26, 27, 28, 29, 30, 31, 32, 33, 34, 35, 36, 37, 38, 39, 40, 41, 42, 43, 44, 45, 46, 47, 48, 49, 50, 51, 52, 53, 54, 55, 56, 57, 58, 59, 60, 61, 62, 63, 64, 65, 66, 67, 68, 69, 70, 71, 72, 73, 74, 75, 76, 77, 78, 79, 80, 81, 82, 83, 84, 85, 86, 87, 88, 89, 90, 91, 92, 93, 94, 95, 96, 97, 98, 99, 100, 101, 102, 103, 104, 105, 106, 107, 108, 109, 110, 111, 112], [1, 3, 4, 6, 7, 8, 10, 11, 12, 13, 14, 15, 16, 17, 18, 19, 20, 21, 22, 23, 24, 25, 26, 27, 28, 29, 30, 31, 32, 33, 34, 35, 36, 37, 38, 39, 40, 41, 42, 43, 44, 45, 46, 47, 48, 49, 50, 51, 52, 53, 54, 55, 56, 57, 58, 59, 60, 61, 62, 63, 64, 65, 66, 67, 68, 69, 70, 71, 72, 73, 74, 75, 76, 77, 78, 79, 80, 81, 82, 83, 84, 85, 86, 87, 88, 89, 90, 91, 92, 93, 94, 95, 96, 97, 98, 99, 100, 101, 102, 103, 104, 105, 106, 107, 108, 109, 110, 111, 112]),
  ([6, 7, 8, 9, 12, 13, 14, 15, 16, 17, 18, 10, 11], [1, 2, 5, 6, 7, 8, 9, 10, 11, 12, 13, 14, 15, 16, 17, 18, 19, 20, 21, 22, 23, 24, 25, 26, 27, 28], [0, 1, 4, 5, 6, 7, 8, 9, 10, 11, 12, 13, 14, 15, 16, 17, 18, 19, 20, 21, 22, 23, 24, 25, 26, 27, 28]),
  ([19, 20, 23, 24, 25, 26, 27, 21, 22], [0, 1, 2, 4, 6, 7, 8, 9, 10, 11, 12, 13, 14, 15, 16, 17, 18, 19, 20, 21, 22, 23, 24, 25, 26, 27, 28], [0, 1, 4, 5, 6, 7, 8, 9, 10, 11, 12, 13, 14, 15, 16, 17, 18, 19, 20, 21, 22, 23, 24, 25, 26, 27, 28]),
  ([9, 10, 11, 12, 13, 14, 15, 16, 17, 18, 8], [2, 3, 4, 5, 6, 9, 10, 11, 12, 13, 14, 15, 16, 17, 18], [0, 1, 2, 3, 5, 6, 7, 8, 9, 10, 11, 12, 13, 14, 15, 16, 17, 18]),
  ([44, 45, 46, 6, 47, 48, 49, 50, 51, 52, 53, 55, 56, 57, 58, 54, 59, 60, 61, 62, 63, 64, 65, 66, 67, 68, 69, 70, 71, 72, 73, 74, 75, 76, 77, 78, 79, 80, 81, 82, 83, 84, 85, 86, 87, 88, 89, 90, 91, 92, 43], [1, 2, 5, 6, 7, 8, 9, 10, 11, 12, 13, 14, 15, 16, 17, 18, 19, 20, 21, 22, 23, 24, 25, 26, 27, 28, 29, 30, 31, 32, 33, 34, 35, 36, 37, 38, 39, 40, 44, 45, 46, 47, 48, 49, 50, 51, 52, 53, 54, 55, 56, 57, 58, 59, 60, 61, 62, 63, 64, 65, 66, 67, 68, 69, 70, 71, 72, 73, 74, 75, 76, 77, 78, 79, 80, 81, 82, 83, 84, 85, 86, 87, 88, 89, 90, 91, 92, 93], [0, 1, 4, 5, 6, 7, 8, 9, 10, 11, 12, 13, 14, 15, 16, 17, 18, 19, 20, 21, 22, 23, 24, 25, 26, 27, 28, 29, 30, 31, 32, 33, 34, 35, 36, 37, 38, 39, 40, 41, 42, 43, 44, 45, 46, 47, 48, 49, 50, 51, 52, 53, 54, 55, 56, 57, 58, 59, 60, 61, 62, 63, 64, 65, 66, 67, 68, 69, 70, 71, 72, 73, 74, 75, 76, 77, 78, 79, 80, 81, 82, 83, 84, 85, 86, 87, 88, 89, 90, 91, 92, 93]),
  ([15, 16, 17, 5, 19, 20, 21, 22, 18, 23, 24, 25, 26, 27, 28, 29, 30, 31, 32, 33, 34, 35, 36, 37, 38, 39, 40, 41, 42, 43, 44, 45, 46, 47, 48, 49, 50, 51, 14], [1, 2, 4, 5, 6, 7, 8, 9, 10, 11, 15, 16, 17, 18, 19, 20, 21, 22, 23, 24, 25, 26, 27, 28, 29, 30, 31, 32, 33, 34, 35, 36, 37, 38, 39, 40, 41, 42, 43, 44, 45, 46, 47, 48, 49, 50, 51, 52], [0, 1, 4, 5, 6, 7, 8, 9, 10, 11, 12, 13, 14, 15, 16, 17, 18, 19, 20, 21, 22, 23, 24, 25, 26, 27, 28, 29, 30, 31, 32, 33, 34, 35, 36, 37, 38, 39, 40, 41, 42, 43, 44, 45, 46, 47, 48, 49, 50, 51, 52]),
  ([6, 7, 8, 9, 12, 13, 14, 15, 16, 17, 18, 19, 10, 11], [2, 3, 4, 6, 7, 8, 9, 10, 11, 12, 13, 14, 15, 16, 17, 18, 19], [1, 2, 3, 5, 6, 7, 8, 9, 10, 11, 12, 13, 14, 15, 16, 17, 18, 19]),
  ([14, 15, 16, 17, 18, 21, 22, 23, 24, 25, 13, 26, 27, 28, 29, 30, 31, 32, 33, 34, 35, 36, 37, 38, 39, 40, 41, 42, 43, 44, 45, 46, 47, 48, 19, 20], [0, 1, 5, 6, 7, 8, 13, 14, 15, 16, 17, 18, 19, 20, 21, 22, 23, 24, 25, 26, 27, 28, 29, 30, 31, 32, 33, 34, 35, 36, 37, 38, 39, 40, 41, 42, 43, 44, 45, 46, 47, 48, 49, 50, 51], [0, 1, 2, 3, 4, 5, 12, 13, 14, 15, 16, 17, 18, 19, 20, 21, 22, 23, 24, 25, 26, 27, 28, 29, 30, 31, 32, 33, 34, 35, 36, 37, 38, 39, 40, 41, 42, 43, 44, 45, 46, 47, 48, 49, 50, 51]),
  ([11, 12, 13, 14, 15, 16, 17, 18, 19, 20, 21, 22, 23, 24, 25, 26, 27, 28, 29, 30, 31, 32, 10], [1, 2, 3, 4, 5, 6, 7, 11, 12, 13, 14, 15, 16, 17, 18, 19, 20, 21, 22, 23, 24, 25, 26, 27, 28, 29, 30, 31, 32], [0, 1, 2, 3, 4, 5, 6, 7, 8, 9, 10, 11, 12, 13, 14, 15, 16, 17, 18, 19, 20, 21, 22, 23, 24, 25, 26, 27, 28, 29, 30, 31, 32]),
  ([36, 37, 38, 39, 40, 43, 44, 45, 46, 47, 48, 49, 50, 51, 52, 53, 54, 55, 56, 57, 58, 59, 60, 41, 42], [0, 2, 5, 6, 7, 8, 9, 10, 11, 12, 13, 14, 15, 16, 17, 18, 19, 20, 21, 22, 23, 24, 25, 26, 27, 28, 29, 30, 31, 32, 33, 34, 35, 36, 37, 38, 39, 40, 41, 42, 43, 44, 45, 46, 47, 48, 49, 50, 51, 52, 53, 54, 55, 56, 57, 58, 59, 60, 61], [0, 1, 4, 5, 6, 7, 8, 9, 10, 11, 12, 13, 14, 15, 16, 17, 18, 19, 20, 21, 22, 23, 24, 25, 26, 27, 28, 29, 30, 31, 32, 33, 34, 35, 36, 37, 38, 39, 40, 41, 42, 43, 44, 45, 46, 47, 48, 49, 50, 51, 52, 53, 54, 55, 56, 57, 58, 59, 60, 61]),
  ([11, 12, 13, 14, 17, 18, 19, 20, 21, 22, 23, 24, 25, 15, 16], [2, 3, 4, 6, 7, 8, 9, 10, 11, 12, 13, 14, 15, 16, 17, 18, 19, 20, 21, 22, 23, 24, 25], [0, 1, 2, 3, 5, 6, 7, 8, 9, 10, 11, 12, 13, 14, 15, 16, 17, 18, 19, 20, 21, 22, 23, 24, 25]),
  ([13, 14, 15, 16, 19, 20, 21, 22, 23, 6, 24, 25, 26, 27, 28, 29, 30, 31, 32, 33, 34, 35, 36, 37, 17, 18], [2, 3, 4, 6, 7, 8, 9, 10, 11, 12, 13, 14, 15, 16, 17, 18, 19, 20, 21, 22, 23, 24, 25, 26, 27, 28, 29, 30, 31, 32, 33, 34, 35, 36, 37], [0, 1, 2, 3, 5, 6, 7, 8, 9, 10, 11, 12, 13, 14, 15, 16, 17, 18, 19, 20, 21, 22, 23, 24, 25, 26, 27, 28, 29, 30, 31, 32, 33, 34, 35, 36, 37]),
  ([13, 14, 15, 6, 16, 17, 18, 19, 20, 21, 12], [1, 2, 3, 5, 6, 7, 8, 9, 13, 14, 15, 16, 17, 18, 19, 20, 21, 22, 23, 24, 25, 26, 27, 28, 29, 30, 31, 32, 33, 34], [1, 5, 6, 7, 8, 9, 10, 11, 12, 13, 14, 15, 16, 17, 18, 19, 20, 21, 22, 23, 24, 25, 26, 27, 28, 29, 30, 31, 32, 33, 34]),
  ([16, 17, 18, 8, 19, 20, 21, 22, 23, 24, 25, 26, 27, 28, 29, 30, 31, 32, 33, 34, 35, 36, 37, 38, 39, 40, 41, 42, 43, 44, 45, 15], [2, 3, 7, 8, 9, 10, 11, 12, 16, 17, 18, 19, 20, 21, 22, 23, 24, 25, 26, 27, 28, 29, 30, 31, 32, 33, 34, 35, 36, 37, 38, 39, 40, 41, 42, 43, 44, 45, 46, 47, 48], [0, 1, 2, 3, 7, 8, 9, 10, 11, 12, 13, 14, 15, 16, 17, 18, 19, 20, 21, 22, 23, 24, 25, 26, 27, 28, 29, 30, 31, 32, 33, 34, 35, 36, 37, 38, 39, 40, 41, 42, 43, 44, 45, 46, 47, 48]),
  ([7, 8, 9, 10, 11, 14, 15, 16, 17, 18, 19, 20, 21, 22, 23, 24, 25, 26, 27, 28, 29, 30, 31, 32, 33, 34, 35, 36, 37, 38, 39, 40, 12, 13], [0, 3, 4, 7, 8, 9, 10, 11, 12, 13, 14, 15, 16, 17, 18, 19, 20, 21, 22, 23, 24, 25, 26, 27, 28, 29, 30, 31, 32, 33, 34, 35, 36, 37, 38, 39, 40, 41], [0, 1, 2, 3, 6, 7, 8, 9, 10, 11, 12, 13, 14, 15, 16, 17, 18, 19, 20, 21, 22, 23, 24, 25, 26, 27, 28, 29, 30, 31, 32, 33, 34, 35, 36, 37, 38, 39, 40, 41]),
  ([8, 9, 10, 11, 12, 13, 14, 15, 16, 7], [1, 2, 3, 5, 6, 8, 9, 10, 11, 12, 13, 14, 15, 16], [0, 1, 2, 3, 4, 5, 6, 7, 8, 9, 10, 11, 12, 13, 14, 15, 16]),
  ([9, 10, 11, 12, 13, 14, 15, 16, 17, 18, 19, 20, 21, 8], [1, 2, 3, 4, 5, 9, 10, 11, 12, 13, 14, 15, 16, 17, 18, 19, 20, 21], [0, 1, 2, 3, 4, 5, 6, 7, 8, 9, 10, 11, 12, 13, 14, 15, 16, 17, 18, 19, 20, 21]),
  ([5, 6, 9, 10, 11, 12, 13, 14, 15, 16, 17, 18, 7, 8], [1, 2, 5, 6, 7, 8, 9, 10, 11, 12, 13, 14, 15, 16, 17, 18, 19], [0, 1, 4, 5, 6, 7, 8, 9, 10, 11, 12, 13, 14, 15, 16, 17, 18, 19]),
  ([11, 12, 13, 7, 14, 15, 16, 17, 18, 19, 10], [0, 2, 3, 4, 6, 7, 11, 12, 13, 14, 15, 16, 17, 18, 19, 20], [0, 1, 2, 3, 6, 7, 8, 9, 10, 11, 12, 13, 14, 15, 16, 17, 18, 19, 20])]
/-- The sizes of the elements of slices within a type's cells. -/
def zz : Nat → List Nat
  | 22 => [32]
  | 24 => [32, 32, 32, 32]
  | 25 => [2]
  | 30 => [0, 0, 0, 0, 2, 0, 0, 0, 0, 0, 0, 0, 0, 0, 0, 0, 0, 0, 0, 0, 0, 0, 0, 0, 0, 0, 0, 2, 0, 0, 0, 0]
  | 35 => [42]
  | 40 => [1]
  | 41 => [1]
  | 42 => [1]
  | 43 => [1]
  | 44 => [1]
  | 45 => [1]
  | 46 => [1]
  | 47 => [1]
  | 48 => [1]
  | 49 => [1]
  | 50 => [1]
  | 51 => [1]
  | 53 => [1, 1, 1, 1, 1, 1, 1, 1, 1, 1, 1, 1]
  | 68 => [0, 0, 0, 0, 0, 2, 0, 0, 0, 0, 0, 0, 0, 0, 0, 0, 0, 0, 0, 0, 0, 0, 0, 0, 0, 0, 0, 0, 2, 0, 0, 0, 0, 0, 0, 0, 0, 0, 0, 0, 0, 0]
  | 74 => [1]
  | 101 => [32, 32, 32, 32, 0, 0, 0, 0, 2, 0, 0, 0, 0, 0, 0, 0, 0, 0, 0, 0, 0, 0, 0, 0, 0, 0, 0, 0, 0, 0, 0, 2, 0, 0, 0, 0, 32, 0, 0]
  | 104 => [1]
  | 121 => [35]
  | 125 => [0, 0, 0, 0, 0, 0, 0, 2, 0, 0, 0, 0, 0, 0, 0, 0, 0, 0, 0, 0, 0, 0, 0, 0, 0, 0, 0, 0, 0, 0, 2, 0, 0, 0, 0]
  | 127 => [1]
  | 129 => [1]
  | 130 => [1]
  | 132 => [1]
  | 135 => [2]
  | 137 => [3]
  | 141 => [2]
  | 143 => [3]
  | 152 => [1]
  | _ => []
def oz : Nat → List (Nat × Nat)
  | 4 => [(0, 30), (1, 30), (2, 30), (3, 30)]
  | 39 => [(0, 30), (1, 30), (2, 30), (3, 30), (8, 116), (31, 116), (36, 30)]
  | _ => []
/-- The table, with summaries of functions. -/
noncomputable def ctx (m : Nat → Option (List AV → Option (AV × List Blk))) : Ctx := ⟨td, conc, eqs, fns, zz, kl, oz, [], m⟩
theorem ctx_ok {G : World → Prop} (m : Nat → Option (List AV → Option (AV × List Blk))) (hm : ∀ n f, m n = some f → Models Try.prog G n f ∧ ∃ fn, Try.prog.funcs[n]? = some fn ∧ fn.body.isSome = true ∧ (fn.name == "runtime.NumGoroutine") = false) : CtxOk Try.prog (ctx m) G :=
  ⟨TdOk.of tds concs, hm, eqss, fnss⟩
end Go.Proofs.Ytnoaglgjhgnnfaa.AvT
