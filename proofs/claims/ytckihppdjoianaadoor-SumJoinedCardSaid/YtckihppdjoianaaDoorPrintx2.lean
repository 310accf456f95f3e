/- The functions below as plain Lean functions, each with the proof that the calls come to it; written by a program over the kit's print. -/
import Derived.Test.YtckihppdjoianaaDoorPrintx0
import Derived.Test.YtckihppdjoianaaDoorPrintx1
namespace Go.Proofs.YtckihppdjoianaaDoor.Print
open Go.RowKit Go.Proofs.YtckihppdjoianaaDoorW.PrintWords Go.Proofs.YtckihppdjoianaaDoorW.PrintLast Go.Proofs.YtckihppdjoianaaDoorW.PrintMore
attribute [local go_sem] max2_int min2_int max_two min_two max_three min_three max_four min_four   -- for this text's walks alone
set_option linter.unusedVariables false
set_option linter.unusedSimpArgs false

/-! ### flotillaref04_Join: function 6 -/
def flotillaref04_Join.f (k : Nat) (a0 : Int) (a1 : Int) (a2 : Int) : Option (Int × Int) := if a2 < 0 then (some (0, 1)) else ((flotillaref04_zeros.f k (Go.bits .xor .u32 4294967295 a0) a2).bind fun t112 => ((flotillaref04_zeros.f k 4294967295 a2).bind fun t113 => (some (Go.bits .xor .u32 (Go.bits .xor .u32 (Go.bits .xor .u32 4294967295 t112) a1) (Go.bits .xor .u32 4294967295 t113), 0))))
theorem flotillaref04_Join.mono : ∀ a0 a1 a2 k, LeO (flotillaref04_Join.f k a0 a1 a2) (flotillaref04_Join.f (k + 1) a0 a1 a2) := by
  intro a0 a1 a2 k
  unfold flotillaref04_Join.f
  repeat' first
      | (with_reducible exact flotillaref04_zeros.mono _ _ _)
      | (with_reducible exact LeO.refl _)
      | (with_reducible exact LeO.none _)
      | (with_reducible refine LeO.ite ?_ ?_)
      | (with_reducible refine LeO.bind ?_ (fun _ => ?_))
      | exact flotillaref04_zeros.mono _ _ _
      | exact LeO.none _
      | refine LeO.ite ?_ ?_
      | refine LeO.bind ?_ (fun _ => ?_)
set_option maxHeartbeats 8000000 in
set_option maxRecDepth 100000 in
theorem flotillaref04_Join.calls (k : Nat) (a0 : Int) (a1 : Int) (a2 : Int) (r1 : Int) (r2 : Int) (w : World) (h : flotillaref04_Join.f k a0 a1 a2 = some (r1, r2)) :
    Calls Tryd.prog 6 #[.int .u32 a0, .int .u32 a1, .int .i64 a2] w fun e w' => e = .returned (.tuple #[.int .u32 r1, .int .i64 r2]) ∧ Below w.heap.size w w' := by
  have HB := Aside0.mk (Below.refl w.heap.size w)
  have H : (if a2 < 0 then (some (0, 1)) else ((flotillaref04_zeros.f k (Go.bits .xor .u32 4294967295 a0) a2).bind fun t112 => ((flotillaref04_zeros.f k 4294967295 a2).bind fun t113 => (some (Go.bits .xor .u32 (Go.bits .xor .u32 (Go.bits .xor .u32 4294967295 t112) a1) (Go.bits .xor .u32 4294967295 t113), 0))))) = some (r1, r2) := h
  clear h
  by_cases c4 : a2 < 0
  · rw [if_pos c4] at H
    have c4b0 : decide (a2 < 0) = true := decide_eq_true c4
    clear c4
    simp only [Option.some.injEq, Prod.mk.injEq] at H
    obtain ⟨rfl, rfl⟩ := H
    go_enter Tryd.func6, Tryd.ntmps6
    go_wp2
    go_ret2
    exact ⟨by first | rfl | (simp [errW_none, errW_some] <;> rfl) | (simp [*, errW_none, errW_some] <;> rfl), by repeat (first | (with_reducible first | exact HB.out | apply below_alloc | apply pw_below_drewN | apply below_drew1) | exact HB.out)⟩
  · rw [if_neg c4] at H
    have c4b0 : decide (a2 < 0) = false := decide_eq_false c4
    clear c4
    replace H := Option.bind_eq_some_iff.mp H
    obtain ⟨t112, A50, H⟩ := H
    replace H : ((flotillaref04_zeros.f k 4294967295 a2).bind fun t113 => (some (Go.bits .xor .u32 (Go.bits .xor .u32 (Go.bits .xor .u32 4294967295 t112) a1) (Go.bits .xor .u32 4294967295 t113), 0))) = some (r1, r2) := H
    have A5 := Aside0.mk A50
    clear A50
    replace H := Option.bind_eq_some_iff.mp H
    obtain ⟨t113, A60, H⟩ := H
    replace H : (some (Go.bits .xor .u32 (Go.bits .xor .u32 (Go.bits .xor .u32 4294967295 t112) a1) (Go.bits .xor .u32 4294967295 t113), 0)) = some (r1, r2) := H
    have A6 := Aside0.mk A60
    clear A60
    simp only [Option.some.injEq, Prod.mk.injEq] at H
    obtain ⟨rfl, rfl⟩ := H
    go_enter Tryd.func6, Tryd.ntmps6
    go_wp2_with (first | ((with_reducible refine gate_callee (f := 16) rfl ?_); refine goesL_ (some 13) rfl rfl Tryd.func16 (by kernel_rfl) rfl #[.int .u32 (Go.bits .xor .u32 4294967295 a0), .int .i64 a2] rfl (by (try simp only [List.map_toArray, List.map_cons, List.map_nil]); first | done | rfl | (simp only [List.length_drop, List.length_take]; rfl)) ?_; (with_reducible refine (flotillaref04_zeros.calls k (Go.bits .xor .u32 4294967295 a0) a2 t112 _ A5.out).mono ?_); rintro e w7 ⟨rfl, hb⟩; refine ⟨_, rfl, ?_⟩; have n0_ := Aside0.mk (below_step (by repeat (first | (with_reducible first | exact HB.out | apply below_alloc | apply pw_below_drewN | apply below_drew1) | exact HB.out)) hb); clear HB; have HB := n0_; clear n0_; (try clear hb); (try clear hb2); (try clear hk); (try clear hi)) | ((with_reducible refine gate_callee (f := 16) rfl ?_); refine goesL_ (some 18) rfl rfl Tryd.func16 (by kernel_rfl) rfl #[.int .u32 4294967295, .int .i64 a2] rfl (by (try simp only [List.map_toArray, List.map_cons, List.map_nil]); first | done | rfl | (simp only [List.length_drop, List.length_take]; rfl)) ?_; (with_reducible refine (flotillaref04_zeros.calls k 4294967295 a2 t113 _ A6.out).mono ?_); rintro e w8 ⟨rfl, hb⟩; refine ⟨_, rfl, ?_⟩; have n0_ := Aside0.mk (below_step (by repeat (first | (with_reducible first | exact HB.out | apply below_alloc | apply pw_below_drewN | apply below_drew1) | exact HB.out)) hb); clear HB; have HB := n0_; clear n0_; (try clear hb); (try clear hb2); (try clear hk); (try clear hi)))
    go_ret2
    exact ⟨by first | rfl | (simp [errW_none, errW_some] <;> rfl) | (simp [*, errW_none, errW_some] <;> rfl), by repeat (first | (with_reducible first | exact HB.out | apply below_alloc | apply pw_below_drewN | apply below_drew1) | exact HB.out)⟩
open Go.Proofs.YtckihppdjoianaaDoor.Crc in
theorem flotillaref04_Join.ev (a b n : Nat) (ha : a < 2 ^ 32) (hb : b < 2 ^ 32) (hn : n < 9223372036854775808) : Ev (fun k => flotillaref04_Join.f k (a : Int) (b : Int) (n : Int)) (((it (8 * n) a ^^^ b : Nat) : Int), 0) := by
  unfold flotillaref04_Join.f
  refine Ev.neg (by omega) ?_
  rw [not_go ha]
  refine Ev.bind (flotillaref04_zeros.ev _ n (not_lt ha) hn) ?_
  refine Ev.bind (flotillaref04_zeros.ev ones n (by decide) hn) ?_
  have h1 := it_lt (8 * n) (not_lt ha)
  have h2 : it (8 * n) ones < 2 ^ 32 := it_lt (8 * n) (by decide)
  have h3 := not_lt h1
  have h4 := not_lt h2
  rw [not_go h1, not_go h2, bits_xor h3 hb, bits_xor (Nat.xor_lt_two_pow h3 hb) h4]
  refine Ev.cast ?_ (Ev.now _)
  congr 2
  rw [it_xor]
  apply Nat.eq_of_testBit_eq
  intro i
  simp only [Nat.testBit_xor]
  generalize ones.testBit i = p
  generalize (it (8 * n) ones).testBit i = q
  generalize (it (8 * n) a).testBit i = s
  generalize b.testBit i = t
  cases p <;> cases q <;> cases s <;> cases t <;> rfl
theorem flotillaref04_Join.no (k : Nat) (a b n : Int) (hn : n < 0) : flotillaref04_Join.f k a b n = some (0, 1) := by
  unfold flotillaref04_Join.f
  rw [if_pos hn]

/-! ### flotillalaw04_SumJoined: function 3 -/
-- GLOB
-- NEEDS flotilla/sum.Join flotilla/flotillaref04.Join
/-- What the law's parts say, together. -/
def flotillalaw04_SumJoined.f (k : Nat) (a0 a1 a2 : Int) : Option Bool :=
  (sum_Join.f a0 a1 a2).bind fun x => (flotillaref04_Join.f k a0 a1 a2).bind fun y =>
    if x.1 = y.1 ∧ Go.Proofs.YtckihppdjoianaaDoor.Pl.plainE (x.2.map fun c => (c, none)) y.2 = true then some true else none
set_option maxRecDepth 100000 in
theorem flotillalaw04_SumJoined.calls (k : Nat) (a0 a1 a2 : Int) (r : Bool) (w : World) (hG : Go.Proofs.YtckihppdjoianaaDoor.As.Glob w) (h : flotillalaw04_SumJoined.f k a0 a1 a2 = some r) :
    Calls Tryd.prog 3 #[.int .u32 a0, .int .u32 a1, .int .i64 a2] w fun e w' => e = .returned (.bool r) ∧ Below w.heap.size w w' := by
  unfold flotillalaw04_SumJoined.f at h
  obtain ⟨⟨x, xe⟩, hx, h⟩ := Option.bind_eq_some_iff.mp h
  obtain ⟨⟨y, ye⟩, hy, h⟩ := Option.bind_eq_some_iff.mp h
  by_cases hc : x = y ∧ Go.Proofs.YtckihppdjoianaaDoor.Pl.plainE (xe.map fun c => (c, none)) ye = true
  · rw [if_pos hc] at h
    obtain rfl := Option.some.inj h
    obtain ⟨rfl, hp⟩ := hc
    have HP := Lib.hid hp
    have HG := Lib.hid hG
    clear hp hG
    have e1 : errW xe = Go.Proofs.YtckihppdjoianaaDoor.Pl.errV (xe.map fun c => (c, none)) := by cases xe <;> rfl
    have E1 := Lib.hid e1
    clear e1
    go_enter Tryd.func3, Tryd.ntmps3
    go_wp2_with fail
    refine (sum_Join.calls a0 a1 a2 x xe _ hx).mono ?_
    rintro e w1 ⟨rfl, b1⟩
    rw [E1.out]
    go_wp2_with fail
    refine (flotillaref04_Join.calls k a0 a1 a2 x ye _ hy).mono ?_
    rintro e w2 ⟨rfl, b2⟩
    have b3 := below_step b1 b2
    clear b1 b2
    go_wp2_with fail
    refine (Go.Proofs.YtckihppdjoianaaDoor.Pl.plain_calls _ ye _ (HG.out.below b3)).mono ?_
    rintro e w3 ⟨rfl, b4⟩
    rw [HP.out]
    go_wp2_with fail
    go_ret
    exact ⟨by simp, below_step b3 b4⟩
  · rw [if_neg hc] at h
    cases h

end Go.Proofs.YtckihppdjoianaaDoor.Print
