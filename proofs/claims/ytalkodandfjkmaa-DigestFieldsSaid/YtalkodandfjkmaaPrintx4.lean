/- The functions below as plain Lean functions, each with the proof that the calls come to it; written by a program over the kit's print. -/
import Derived.Test.YtalkodandfjkmaaPrintx0
import Derived.Test.YtalkodandfjkmaaPrintx3
namespace Go.Proofs.Ytalkodandfjkmaa.Print
open Go.RowKit Go.Proofs.YtalkodandfjkmaaW.PrintWords Go.Proofs.YtalkodandfjkmaaW.PrintLast Go.Proofs.YtalkodandfjkmaaW.PrintMore
attribute [local go_sem] max2_int min2_int max_two min_two max_three min_three max_four min_four   -- for this text's walks alone
set_option linter.unusedVariables false
set_option linter.unusedSimpArgs false

/-! ### flotillalaw05_works: function 17 -/
def flotillalaw05_works.f : Option Bool := some true
set_option maxRecDepth 100000 in
set_option maxHeartbeats 1000000 in
theorem flotillalaw05_works.calls (r : Bool) (w : World) (h : flotillalaw05_works.f = some r) :
    Calls Try.prog 17 #[] w fun e w' => e = .returned (.bool r) ∧ Below w.heap.size w w' := by
  obtain rfl := Option.some.inj h
  have HP := Lib.hid (show digest_Parse.f 20 ⟨#[97, 97, 97, 97, 97, 97, 97, 97, 97, 97, 97, 97, 98]⟩ = some (1, none) by decide +kernel)
  have HO := Lib.hid (show Go.Proofs.Ytalkodandfjkmaa.Dig.fnvL 14695981039346656037 [102, 111, 111, 98, 97, 114] = 9625390261332436968 by decide +kernel)
  have HT := Lib.hid (show Go.Proofs.Ytalkodandfjkmaa.Dig.textB 1 = ⟨#[97, 97, 97, 97, 97, 97, 97, 97, 97, 97, 97, 97, 98]⟩ by decide +kernel)
  go_enter Try.func17, Try.ntmps17
  go_wp2_with fail
  refine (digest_Parse.calls 20 _ 1 none _ HP.out).mono ?_
  rintro e w' ⟨rfl, nd, rfl⟩
  simp only [errW_none]
  have kc := Joins.run_convert_bytes_const_at (P := Try.prog) (w.drewN nd) 22 5 #[.int .u8 102, .int .u8 111, .int .u8 111, .int .u8 98, .int .u8 97, .int .u8 114] 6 6 w.heap.size rfl Try.underlying22 Try.underlying5
  go_wp2_with fail
  refine (Go.Proofs.Ytalkodandfjkmaa.Dig.of_calls _ 6 [102, 111, 111, 98, 97, 114] _ (Go.Proofs.Ytalkodandfjkmaa.Dig.C_new .u8 (w.drewN nd) [102, 111, 111, 98, 97, 114] 5 (6, 7) (by simp))).mono ?_
  rintro e w' ⟨rfl, hb⟩
  rw [HO.out]
  go_wp2_with fail
  refine (Go.Proofs.Ytalkodandfjkmaa.Dig.text_calls 1 _).mono ?_
  rintro e w2 ⟨rfl, hb2⟩
  rw [HT.out]
  go_wp2
  go_ret
  have h1 := below_step (below_alloc (pw_below_drewN (Below.refl w.heap.size w) nd) _) hb
  exact ⟨rfl, below_step h1 hb2⟩

end Go.Proofs.Ytalkodandfjkmaa.Print
