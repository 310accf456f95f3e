/- The functions below as plain Lean functions, each with the proof that the calls come to it; written by a program over the kit's print. -/
import Derived.Test.YtalkodandfjkmaaPrintx0
import Derived.Test.YtalkodandfjkmaaPrintx9
import Derived.Test.YtalkodandfjkmaaPrintx10
import Derived.Test.YtalkodandfjkmaaPrintx11
namespace Go.Proofs.Ytalkodandfjkmaa.Print
open Go.RowKit Go.Proofs.YtalkodandfjkmaaW.PrintWords Go.Proofs.YtalkodandfjkmaaW.PrintLast Go.Proofs.YtalkodandfjkmaaW.PrintMore
attribute [local go_sem] max2_int min2_int max_two min_two max_three min_three max_four min_four   -- for this text's walks alone
set_option linter.unusedVariables false
set_option linter.unusedSimpArgs false

/-! ### flotillakit_KeptLabels: function 31 -/
/-- Is the lent list as it was, its spare room too? -/
theorem flotillakit_KeptLabels.kept (k : Nat) (ad : Addr) (c0 : Nat) (full : List (S51)) (A1 : Option Addr) (c1 : Nat) (l1 : List (S51)) (r : Bool) (w : World) (hr0 : Kd.C k51 w (some ad) full.length full) (hc0 : full.length ≤ c0)
    (hr1 : Kd.C k51 w A1 l1.length l1) (hc1 : l1.length ≤ c1) (hn : full.length = l1.length + 16) (h : flotillakit_KeptFullLabels.f k full l1 = some r) :
    Calls Try.prog 31 #[.slice (some ad) l1.length c0, .slice A1 l1.length c1] w fun e w' => e = .returned (.bool r) ∧ Below w.heap.size w w' := by
  have hm := Kd.C_max hr0
  have C := fun w hr0 hr1 => (flotillakit_KeptFullLabels.calls k (some ad) c0 full A1 c1 l1 r w hr0 hc0 hr1 hc1 h).mono (fun e w' (hh : _) => (show e = .returned (.bool r) ∧ Below w.heap.size w w' from ⟨hh.1, by first | exact hh.2 | exact hh.2.below⟩))
  rw [hn] at hr0 C hc0 hm
  have HR0 := Lib.hid hr0
  have HR1 := Lib.hid hr1
  clear hr0 hr1
  go_enter Try.func31, Try.ntmps31
  go_wp2_with fail
  refine (C _ HR0.out HR1.out).mono ?_
  rintro e w' ⟨rfl, hd⟩
  go_wp2_with fail
  go_ret
  exact ⟨rfl, hd⟩

/-! ### flotillakit_KeptObject: function 16 -/
set_option maxHeartbeats 2000000 in
set_option maxRecDepth 100000 in
/-- The lent object is as it was, its lists' spare room too. -/
theorem flotillakit_KeptObject.kept (k : Nat) (x : S32) (a4 a27 : Addr) (B4 B27 : Option Addr) (c4 d4 c27 d27 : Nat) (full4 full27 : List (S51)) (w : World)
    (h1 : Kd.C k51 w (some a4) full4.length full4) (g1 : full4.length ≤ c4) (h2 : Kd.C k51 w B4 x.f4.length x.f4) (g2 : x.f4.length ≤ d4)
    (h3 : Kd.C k51 w (some a27) full27.length full27) (g3 : full27.length ≤ c27) (h4 : Kd.C k51 w B27 x.f25.length x.f25) (g4 : x.f25.length ≤ d27)
    (n4 : full4.length = x.f4.length + 16) (n27 : full27.length = x.f25.length + 16) (t4 : full4.take x.f4.length = x.f4) (t27 : full27.take x.f25.length = x.f25)
    (e1 : flotillaref0_SameLabels.f k x.f4 x.f4 = some true) (e2 : flotillaref0_SameLabels.f k x.f25 x.f25 = some true)
    (e3 : flotillakit_KeptFullLabels.f k full4 x.f4 = some true) (e4 : flotillakit_KeptFullLabels.f k full27 x.f25 = some true) :
    Calls Try.prog 16 #[.agg (objv x (.slice (some a4) x.f4.length c4) (.slice (some a27) x.f25.length c27)).toArray, .agg (objv x (.slice B4 x.f4.length d4) (.slice B27 x.f25.length d27)).toArray] w fun e w' => e = .returned (.bool true) ∧ Below w.heap.size w w' := by
  have y1 := Kd.C_take (m := x.f4.length) h1 (by omega)
  have y3 := Kd.C_take (m := x.f25.length) h3 (by omega)
  rw [t4] at y1
  rw [t27] at y3
  have H1 := Lib.hid h1
  have H2 := Lib.hid h2
  have H3 := Lib.hid h3
  have H4 := Lib.hid h4
  have Y1 := Lib.hid y1
  have Y3 := Lib.hid y3
  have E1 := Lib.hid e1
  have E2 := Lib.hid e2
  have E3 := Lib.hid e3
  have E4 := Lib.hid e4
  have N4 := Lib.hid n4
  have N27 := Lib.hid n27
  have G1 := Lib.hid g1
  have G3 := Lib.hid g3
  have j1 : x.f4.length ≤ c4 := by omega
  have j3 : x.f25.length ≤ c27 := by omega
  clear h1 h2 h3 h4 y1 y3 e1 e2 e3 e4 n4 n27 t4 t27 g1 g3
  have p4 := objv_4 x (.slice (some a4) x.f4.length c4) (.slice (some a27) x.f25.length c27)
  have p27 := objv_27 x (.slice (some a4) x.f4.length c4) (.slice (some a27) x.f25.length c27)
  have q4 := objv_4 x (.slice B4 x.f4.length d4) (.slice B27 x.f25.length d27)
  have q27 := objv_27 x (.slice B4 x.f4.length d4) (.slice B27 x.f25.length d27)
  have hu := Try.underlying32
  have SP := Lib.hid (objv_size x (.slice (some a4) x.f4.length c4) (.slice (some a27) x.f25.length c27))
  have SQ := Lib.hid (objv_size x (.slice B4 x.f4.length d4) (.slice B27 x.f25.length d27))
  have C0 := Lib.hid (fun w (u1 : Kd.C k51 w (some a4) x.f4.length x.f4) u2 (u3 : Kd.C k51 w (some a27) x.f25.length x.f25) u4 => flotillaref0_SameObject.eq k x (some a4) B4 (some a27) B27 c4 d4 c27 d27 w u1 j1 u2 g2 u3 j3 u4 g4 E1.out E2.out)
  obtain ⟨P, hP⟩ : ∃ P, objv x (.slice (some a4) x.f4.length c4) (.slice (some a27) x.f25.length c27) = P := ⟨_, rfl⟩
  obtain ⟨Q, hQ⟩ : ∃ Q, objv x (.slice B4 x.f4.length d4) (.slice B27 x.f25.length d27) = Q := ⟨_, rfl⟩
  rw [hP] at p4 p27 SP C0 ⊢
  rw [hQ] at q4 q27 SQ C0 ⊢
  clear hP hQ
  have hw1 := heap_alloc_new w (.cells P.toArray 32)
  have hw2 := heap_alloc_new (w.alloc (.cells P.toArray 32)) (.cells Q.toArray 32)
  rw [World.size_alloc] at hw2
  have hw3 : ((w.alloc (.cells P.toArray 32)).alloc (.cells Q.toArray 32)).heap[w.heap.size]? = some (.cells P.toArray 32 (0, 0)) := (heap_alloc_old _ _ (by simp)).trans hw1
  have hb2 : Below w.heap.size w ((w.alloc (.cells P.toArray 32)).alloc (.cells Q.toArray 32)) := ((Below.refl _ _).alloc (Nat.le_refl _) _).alloc (by simp) _
  have HW2 := Lib.hid hw2
  have HW3 := Lib.hid hw3
  have HB2 := Lib.hid hb2
  clear hw1 hw2 hw3 hb2
  go_enter Try.func16, Try.ntmps16
  go_wp2_with (first
    | (refine wpList_load_row rfl 32 (.tmp 2) rfl w.heap.size rfl _ _ _ _ HW3.out hu rfl SP.out ?_)
    | (refine wpList_load_row rfl 32 (.tmp 3) rfl (w.heap.size + 1) rfl _ _ _ _ HW2.out hu rfl SQ.out ?_)
    | fail)
  refine (C0.out _ (Kd.C_below Y1.out HB2.out) (Kd.C_below H2.out HB2.out) (Kd.C_below Y3.out HB2.out) (Kd.C_below H4.out HB2.out)).mono ?_
  rintro e w1 ⟨rfl, b1⟩
  have hs2 : ((w.alloc (.cells P.toArray 32)).alloc (.cells Q.toArray 32)).heap.size = w.heap.size + 1 + 1 := by simp
  have HA := Lib.hid ((b1.block w.heap.size (by rw [hs2]; omega)).trans HW3.out)
  have HB := Lib.hid ((b1.block (w.heap.size + 1) (by rw [hs2]; omega)).trans HW2.out)
  have b2 := below_step HB2.out b1
  clear b1 hs2
  have cA : w1.cell? ⟨w.heap.size, 4, none⟩ = some (.slice (some a4) x.f4.length c4) := by rw [cell_of_row _ _ _ _ _ _ HA.out]; simpa using p4
  have cB : w1.cell? ⟨w.heap.size + 1, 4, none⟩ = some (.slice B4 x.f4.length d4) := by rw [cell_of_row _ _ _ _ _ _ HB.out]; simpa using q4
  go_wp2_with fail
  refine (flotillakit_KeptLabels.kept k a4 c4 full4 _ _ x.f4 true _ (Kd.C_below H1.out b2) G1.out (Kd.C_below H2.out b2) g2 N4.out E3.out).mono ?_
  rintro e w2 ⟨rfl, d2⟩
  have b2' : Below w1.heap.size w1 w2 := by first | exact d2 | exact d2.below
  clear d2 cA cB
  have hlA : w.heap.size < w1.heap.size := (Array.getElem?_eq_some_iff.1 HA.out).1
  have hlB : w.heap.size + 1 < w1.heap.size := (Array.getElem?_eq_some_iff.1 HB.out).1
  have HA2 := Lib.hid ((b2'.block _ hlA).trans HA.out)
  have HBB2 := Lib.hid ((b2'.block _ hlB).trans HB.out)
  have b3 := below_step b2 b2'
  clear hlA hlB b2 b2'
  have cA : w2.cell? ⟨w.heap.size, 27, none⟩ = some (.slice (some a27) x.f25.length c27) := by rw [cell_of_row _ _ _ _ _ _ HA2.out]; simpa using p27
  have cB : w2.cell? ⟨w.heap.size + 1, 27, none⟩ = some (.slice B27 x.f25.length d27) := by rw [cell_of_row _ _ _ _ _ _ HBB2.out]; simpa using q27
  go_wp2_with fail
  refine (flotillakit_KeptLabels.kept k a27 c27 full27 _ _ x.f25 true _ (Kd.C_below H3.out b3) G3.out (Kd.C_below H4.out b3) g4 N27.out E4.out).mono ?_
  rintro e w3 ⟨rfl, d3⟩
  have b3' : Below w2.heap.size w2 w3 := by first | exact d3 | exact d3.below
  have b4 := below_step b3 b3'
  clear d3 cA cB b3 b3'
  go_wp2_with fail
  go_ret
  exact ⟨rfl, b4⟩

end Go.Proofs.Ytalkodandfjkmaa.Print
