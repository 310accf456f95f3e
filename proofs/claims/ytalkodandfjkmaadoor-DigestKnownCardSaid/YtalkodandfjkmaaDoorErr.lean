/- errors.Is between errors of one whole-number type (package api's numbers), and a number's error told by flotillakit.Num: Go's own text of errors.Is, walked. -/
import Derived.Test.YtalkodandfjkmaaDoorProg
import Derived.WalkKit
import Derived.LoopTactic
import Derived.Tactics2
import Derived.Below
import Derived.Lib.Hide
import Derived.LaidEql
import Derived.Stop.Asserts
import Derived.RowKitTokens
import Derived.Handy
namespace Go
section
variable {P : Program} (w : World)
theorem run_equalIn_iface_int (d : Nat) {ti tn : TypeId} {ms : Array (String × TypeId)} {i : TypeInfo} {k : IntKind} (a b : Int)
    (hi : P.underlying ti = some (.interface ms)) (hn : P.underlying tn = some (.int k)) (hinfo : P.info? tn = some i) (hcomp : i.comparable = true) :
    (Op.equalIn (d + 2) ti (.iface tn (.int k a)) (.iface tn (.int k b))).run P w = .ok (a == b) w := by
  simp [Op.equalIn, run_underlying hi, run_underlying hn, typeInfo, hinfo, hcomp]
/-- 'x == y', both interface values of ONE integer type: as the numbers are. -/
theorem run_eql_iface_int {ti tn : TypeId} {ms : Array (String × TypeId)} {i : TypeInfo} {k : IntKind} (a b : Int)
    (hi : P.underlying ti = some (.interface ms)) (hn : P.underlying tn = some (.int k)) (hinfo : P.info? tn = some i) (hcomp : i.comparable = true) :
    (binOp .eql ti (.iface tn (.int k a)) (.iface tn (.int k b))).run P w = .ok (.bool (a == b)) w := by
  simp only [binOp]
  simp [Op.equal, Op.maxDepth, run_equalIn_iface_int w 9998 a b hi hn hinfo hcomp]
end
end Go
namespace Go.Proofs.YtalkodandfjkmaaDoor.Err
open Go.RowKit Go.Extern.Stop Go.Stop Go.Extern
def nPH : String := "Comparable"
theorem isTypeOf (v : Value) (w : World) : (Extern.ReflectliteType.typeOf #[.iface 46 v]).run Tryd.prog w = .ok (.iface 77 (.agg #[.pointer (some ⟨2, 46, none⟩)])) w := by kernel_rfl
theorem isComparable (w : World) : ((Extern.ReflectliteType.method fun t => do Extern.Rtype.noPackHeld nPH t; (fun a => Value.bool a.comparable) <$> typeInfo t) #[.agg #[.pointer (some ⟨2, 46, none⟩)]]).run Tryd.prog w = .ok (.bool true) w := by kernel_rfl
theorem isMethodComparable (v : Value) (w : World) : (Go.method 222 77 v "Comparable").run Tryd.prog w = .ok (57, v) w := by kernel_rfl
theorem isComp : (Tryd.prog.info? 46).map (·.comparable) = some true := by kernel_rfl
theorem noIsE (v : Value) (xT : TypeId) (w : World) : (Instr.typeAssert (.iface 46 v) xT 89 true).run Tryd.prog w = .ok (.tuple #[.nilIface, .bool false]) w := run_typeAssert_lacksB Tryd.underlying89 (by kernel_rfl) (by kernel_rfl) v xT w
theorem noUnwrapE (v : Value) (xT : TypeId) (w : World) : (Instr.typeAssert (.iface 46 v) xT 84 true).run Tryd.prog w = .ok (.tuple #[.nilIface, .bool false]) w := run_typeAssert_lacksB Tryd.underlying84 (by kernel_rfl) (by kernel_rfl) v xT w
theorem noUnwrapsE (v : Value) (xT : TypeId) (w : World) : (Instr.typeAssert (.iface 46 v) xT 86 true).run Tryd.prog w = .ok (.tuple #[.nilIface, .bool false]) w := run_typeAssert_lacksB Tryd.underlying86 (by kernel_rfl) (by kernel_rfl) v xT w

set_option maxRecDepth 100000 in
set_option maxHeartbeats 1000000 in
/-- errors.Is of two numbers: are they the same? -/
theorem is_int (a b : Int) (w : World) :
    Calls Tryd.prog 21 #[.iface 46 (.int .i64 a), .iface 46 (.int .i64 b)] w fun e w' => e = .returned (.bool (a == b)) ∧ w' = w := by
  obtain ⟨i, hi, hcmp⟩ := Option.map_eq_some_iff.1 isComp
  have h8 := @run_callFunc_extern Tryd.prog 28 _ Extern.ReflectliteType.typeOf Tryd.func28 (by kernel_rfl) (by kernel_rfl) (by kernel_rfl) (by kernel_rfl)
  have h32 := @run_callFunc_extern Tryd.prog 57 _ (Extern.ReflectliteType.method fun t => do Extern.Rtype.noPackHeld nPH t; pure (.bool (← typeInfo t).comparable)) Tryd.func57 (by kernel_rfl) (by kernel_rfl) (by kernel_rfl) (by kernel_rfl)
  have tT := isTypeOf
  have cT := isComparable
  have mR := isMethodComparable
  have nE := noIsE
  have uE := noUnwrapE
  have vE := noUnwrapsE
  have heq := run_eql_iface_int (P := Tryd.prog) w a b Tryd.underlying26 Tryd.underlying46 hi hcmp
  by_cases hab : a = b
  · subst hab
    have hb : (a == a) = true := by simp
    go_enter Tryd.func21, Tryd.ntmps21
    go_wp2
    refine wp_loop_rounds 1 ?_
    rw [rounds_succ]
    go_wp2
    go_ret
    exact ⟨by simp, rfl⟩
  · have hb : (a == b) = false := by simpa using hab
    rw [hb] at heq ⊢
    clear hab hb
    go_enter Tryd.func21, Tryd.ntmps21
    go_wp2
    refine wp_loop_rounds 1 ?_
    rw [rounds_succ]
    go_wp2
    go_ret
    exact ⟨rfl, rfl⟩
/-- What flotillakit.Num tells of a number's error. -/
def numOf (c : Int) : Int := if 1 ≤ c ∧ c ≤ 36 then c else -1
set_option maxHeartbeats 1000000 in
theorem num_nil (w : World) : Calls Tryd.prog 15 #[.nilIface] w fun e w' => e = .returned (.int .i64 0) ∧ w' = w := by
  go_enter Tryd.func15, Tryd.ntmps15
  go_wp2
  go_ret
  exact ⟨rfl, rfl⟩
set_option maxHeartbeats 1000000 in
theorem num_int (c : Int) (w : World) : Calls Tryd.prog 15 #[.iface 46 (.int .i64 c)] w fun e w' => e = .returned (.int .i64 (numOf c)) ∧ w' = w := by
  go_enter Tryd.func15, Tryd.ntmps15
  go_wp2
  go_loop [3, 4] (fun f n => ∃ (k : Nat) (fv : Int), 1 ≤ k ∧ k ≤ 37 ∧ n = .int .i64 k ∧ f = .int .i64 fv ∧ Hid (fv = if 1 ≤ c ∧ c < k then c else 0)) (fun _ n => 37 - (intOf n).toNat)
  case atStart => exact ⟨1, 0, by omega, by omega, rfl, rfl, (if_neg (by omega)).symm⟩
  case round =>
    obtain ⟨k, fv, h1, h2, rfl, rfl, HF⟩ := hrel
    by_cases hk : k ≤ 36
    · by_cases hck : c = (k : Int)
      · have hb : (c == (k : Int)) = true := by simpa using hck
        obtain rfl : fv = 0 := by rw [HF.out, if_neg (by omega)]
        have HC := Lib.hid hck
        clear hck
        go_wp2_with (go_at_call 21; refine (is_int c k _).mono ?_; rintro e w' ⟨rfl, rfl⟩)
        go_round
        case rel => exact ⟨k + 1, k, by omega, by omega, by go_num, rfl, by show _ = _; have := HC.out; rw [if_pos (by omega)]; exact this.symm⟩
        case measure => simp [intOf]; omega
      · have hb : (c == (k : Int)) = false := by simpa using hck
        go_wp2_with (go_at_call 21; refine (is_int c k _).mono ?_; rintro e w' ⟨rfl, rfl⟩)
        go_round
        case rel => exact ⟨k + 1, fv, by omega, by omega, by go_num, rfl, by show _ = _; rw [HF.out]; congr 1; simp only [eq_iff_iff]; omega⟩
        case measure => simp [intOf]; omega
    · obtain rfl : k = 37 := by omega
      by_cases hc : 1 ≤ c ∧ c ≤ 36
      · obtain rfl : fv = c := by rw [HF.out, if_pos (by omega)]
        have hn : numOf fv = fv := if_pos hc
        have HN := Lib.hid hn
        have h0 : (fv == 0) = false := by simp; omega
        clear hn
        go_wp2_with (go_at_call 21; refine (is_int fv 0 _).mono ?_; rintro e w' ⟨rfl, rfl⟩)
        go_ret
        exact ⟨by rw [HN.out]; rfl, rfl⟩
      · obtain rfl : fv = 0 := by rw [HF.out, if_neg (by omega)]
        have HN := Lib.hid (show numOf c = -1 from if_neg hc)
        go_wp2_with (go_at_call 21; refine (is_int c 0 _).mono ?_; rintro e w' ⟨rfl, rfl⟩)
        go_ret
        exact ⟨by rw [HN.out]; rfl, rfl⟩
end Go.Proofs.YtalkodandfjkmaaDoor.Err
