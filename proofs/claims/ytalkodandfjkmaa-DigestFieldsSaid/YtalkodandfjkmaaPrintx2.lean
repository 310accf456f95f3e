/- The functions below as plain Lean functions, each with the proof that the calls come to it; written by a program over the kit's print. -/
import Derived.Test.YtalkodandfjkmaaPrintx0
namespace Go.Proofs.Ytalkodandfjkmaa.Print
open Go.RowKit Go.Proofs.YtalkodandfjkmaaW.PrintWords Go.Proofs.YtalkodandfjkmaaW.PrintLast Go.Proofs.YtalkodandfjkmaaW.PrintMore
attribute [local go_sem] max2_int min2_int max_two min_two max_three min_three max_four min_four   -- for this text's walks alone
set_option linter.unusedVariables false
set_option linter.unusedSimpArgs false

/-! ### digest_Template: function 14 -/
def digest_Template.f (a0_0 : Int) (a0_1 : ByteArray) (a0_2 : Int) (a0_3 : Int) (l0_4 : List (S51)) (a0_5 : Int) (a0_6 : Int) (a0_7 : Bool) (a0_8 : Bool) (a0_9 : Bool) (a0_10 : Int) (a0_11 : ByteArray) (a0_12 : ByteArray) (a0_13 : ByteArray) (a0_14 : Int) (a0_15 : Bool) (a0_16 : Bool) (a0_17 : Int) (a0_18 : Int) (a0_19 : ByteArray) (a0_20 : Int) (a0_21 : Int) (a0_22 : Int) (a0_23 : Int) (a0_24 : Int) (a0_25 : Bool) (a0_26 : Int) (l0_27 : List (S51)) (a0_28 : Int) (a0_29 : ByteArray) (a0_30 : Int) (a0_31 : Int) : Option (Int) := if a0_19.size ≤ 140737488351232 ∧ ∀ x ∈ l0_4, x.f0.size ≤ 140737488351232 ∧ x.f1.size ≤ 140737488351232 then some (Go.Proofs.Ytalkodandfjkmaa.Dig.fnvL 14695981039346656037 (Go.Proofs.Ytalkodandfjkmaa.Dig.itsB (Go.Proofs.Ytalkodandfjkmaa.Dig.tmplIts a0_19 a0_17 a0_18 a0_20 a0_21 (l0_4.map fun x => (x.f0, x.f1)) ++ Go.Proofs.Ytalkodandfjkmaa.Dig.labIts (l0_4.map fun x => (x.f0, x.f1))))) else none
theorem digest_Template.calls (a0_0 : Int) (a0_1 : ByteArray) (a0_2 : Int) (a0_3 : Int) (A0_4 : Option Addr) (c0_4 : Nat) (l0_4 : List (S51)) (a0_5 : Int) (a0_6 : Int) (a0_7 : Bool) (a0_8 : Bool) (a0_9 : Bool) (a0_10 : Int) (a0_11 : ByteArray) (a0_12 : ByteArray) (a0_13 : ByteArray) (a0_14 : Int) (a0_15 : Bool) (a0_16 : Bool) (a0_17 : Int) (a0_18 : Int) (a0_19 : ByteArray) (a0_20 : Int) (a0_21 : Int) (a0_22 : Int) (a0_23 : Int) (a0_24 : Int) (a0_25 : Bool) (a0_26 : Int) (A0_27 : Option Addr) (c0_27 : Nat) (l0_27 : List (S51)) (a0_28 : Int) (a0_29 : ByteArray) (a0_30 : Int) (a0_31 : Int) (r : Int) (w : World) (hr0_4 : Kd.C k51 w A0_4 l0_4.length l0_4) (hc0_4 : l0_4.length ≤ c0_4) (hr0_27 : Kd.C k51 w A0_27 l0_27.length l0_27) (hc0_27 : l0_27.length ≤ c0_27) (h : digest_Template.f a0_0 a0_1 a0_2 a0_3 l0_4 a0_5 a0_6 a0_7 a0_8 a0_9 a0_10 a0_11 a0_12 a0_13 a0_14 a0_15 a0_16 a0_17 a0_18 a0_19 a0_20 a0_21 a0_22 a0_23 a0_24 a0_25 a0_26 l0_27 a0_28 a0_29 a0_30 a0_31 = some r) :
    Calls Try.prog 14 #[.agg #[.int .i64 a0_0, .string a0_1, .int .i64 a0_2, .int .i64 a0_3, .slice A0_4 l0_4.length c0_4, .int .i64 a0_5, .int .i64 a0_6, .bool a0_7, .bool a0_8, .bool a0_9, .int .i64 a0_10, .string a0_11, .string a0_12, .string a0_13, .int .i64 a0_14, .bool a0_15, .bool a0_16, .int .i64 a0_17, .int .i64 a0_18, .string a0_19, .int .i64 a0_20, .int .i64 a0_21, .int .i64 a0_22, .int .i64 a0_23, .int .i64 a0_24, .bool a0_25, .int .u64 a0_26, .slice A0_27 l0_27.length c0_27, .int .i64 a0_28, .string a0_29, .int .i64 a0_30, .int .i64 a0_31]] w fun e w' => e = .returned (.int .u64 r) ∧ Below w.heap.size w w' := by
  unfold digest_Template.f at h
  split at h
  · rename_i hb
    obtain rfl := Option.some.inj h
    have hC := Go.Proofs.Ytalkodandfjkmaa.Dig.C_map (d := Kd.pair Kd.string Kd.string) (f := fun x : S51 => (x.f0, x.f1)) hr0_4
    have hl : (l0_4.map fun x : S51 => (x.f0, x.f1)).length = l0_4.length := List.length_map _
    have h1 := Go.Proofs.Ytalkodandfjkmaa.Dig.template_calls A0_4 c0_4 (l0_4.map fun x => (x.f0, x.f1)) a0_17 a0_18 a0_20 a0_21 a0_19 (.int .i64 a0_0) (.string a0_1) (.int .i64 a0_2) (.int .i64 a0_3) (.int .i64 a0_5) (.int .i64 a0_6) (.bool a0_7) (.bool a0_8) (.bool a0_9) (.int .i64 a0_10) (.string a0_11) (.string a0_12) (.string a0_13) (.int .i64 a0_14) (.bool a0_15) (.bool a0_16) (.int .i64 a0_22) (.int .i64 a0_23) (.int .i64 a0_24) (.bool a0_25) (.int .u64 a0_26) (.slice A0_27 l0_27.length c0_27) (.int .i64 a0_28) (.string a0_29) (.int .i64 a0_30) (.int .i64 a0_31) w (by rw [hl]; exact hC) hb.1 (by
      intro x hx
      obtain ⟨y, hy, rfl⟩ := List.mem_map.1 hx
      exact hb.2 y hy)
    rw [hl] at h1
    exact h1
  · exact absurd h (by simp)


/-! ### strings_IndexByte: function 32 -/
def strings_IndexByte.f (a0 : ByteArray) (a1 : Int) : Option Int := some (Lib.indexByte a0.data.toList a1.toNat.toUInt8)
theorem strings_IndexByte.calls (a0 : ByteArray) (a1 : Int) (r : Int) (w : World) (h : strings_IndexByte.f a0 a1 = some r) :
    Calls Try.prog 32 #[.string a0, .int .u8 a1] w fun e w' => e = .returned (.int .i64 r) ∧ Drawn0 w w' := by
  obtain rfl := Option.some.inj h
  refine (Try.strings_IndexByte a0 a1 w).mono ?_
  rintro e w' ⟨rfl, rfl⟩
  exact ⟨rfl, Drawn0.refl _⟩

end Go.Proofs.Ytalkodandfjkmaa.Print
