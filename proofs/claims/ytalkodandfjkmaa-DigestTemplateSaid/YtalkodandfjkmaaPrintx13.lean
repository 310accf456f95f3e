/- The functions below as plain Lean functions, each with the proof that the calls come to it; written by a program over the kit's print. -/
import Derived.Test.YtalkodandfjkmaaPrintx0
import Derived.Test.YtalkodandfjkmaaPrintx2
import Derived.Test.YtalkodandfjkmaaPrintx4
import Derived.Test.YtalkodandfjkmaaPrintx5
import Derived.Test.YtalkodandfjkmaaPrintx9
import Derived.Test.YtalkodandfjkmaaPrintx11
import Derived.Test.YtalkodandfjkmaaPrintx12
namespace Go.Proofs.Ytalkodandfjkmaa.Print
open Go.RowKit Go.Proofs.YtalkodandfjkmaaW.PrintWords Go.Proofs.YtalkodandfjkmaaW.PrintLast Go.Proofs.YtalkodandfjkmaaW.PrintMore
attribute [local go_sem] max2_int min2_int max_two min_two max_three min_three max_four min_four   -- for this text's walks alone
set_option linter.unusedVariables false
set_option linter.unusedSimpArgs false

/-! ### flotillalaw05_DigestTemplate: function 4 -/
open Classical in
/-- What the law's parts say, together. -/
noncomputable def flotillalaw05_DigestTemplate.f (k : Nat) (a0_0 : Int) (a0_1 : ByteArray) (a0_2 : Int) (a0_3 : Int) (l0_4 : List (S51)) (a0_5 : Int) (a0_6 : Int) (a0_7 : Bool) (a0_8 : Bool) (a0_9 : Bool) (a0_10 : Int) (a0_11 : ByteArray) (a0_12 : ByteArray) (a0_13 : ByteArray) (a0_14 : Int) (a0_15 : Bool) (a0_16 : Bool) (a0_17 : Int) (a0_18 : Int) (a0_19 : ByteArray) (a0_20 : Int) (a0_21 : Int) (a0_22 : Int) (a0_23 : Int) (a0_24 : Int) (a0_25 : Bool) (a0_26 : Int) (l0_27 : List (S51)) (a0_28 : Int) (a0_29 : ByteArray) (a0_30 : Int) (a0_31 : Int) : Option Bool :=
  (flotillalaw05_long.f k a0_0 a0_1 a0_2 a0_3 l0_4 a0_5 a0_6 a0_7 a0_8 a0_9 a0_10 a0_11 a0_12 a0_13 a0_14 a0_15 a0_16 a0_17 a0_18 a0_19 a0_20 a0_21 a0_22 a0_23 a0_24 a0_25 a0_26 l0_27 a0_28 a0_29 a0_30 a0_31).bind fun b => if b = true then some true else
  (flotillakit_FullLabels.f k l0_4).bind fun full4 => (flotillakit_FullLabels.f k l0_27).bind fun full27 =>
  (digest_Template.f a0_0 a0_1 a0_2 a0_3 l0_4 a0_5 a0_6 a0_7 a0_8 a0_9 a0_10 a0_11 a0_12 a0_13 a0_14 a0_15 a0_16 a0_17 a0_18 a0_19 a0_20 a0_21 a0_22 a0_23 a0_24 a0_25 a0_26 l0_27 a0_28 a0_29 a0_30 a0_31).bind fun p => (flotillaref05_Template.f k a0_0 a0_1 a0_2 a0_3 l0_4 a0_5 a0_6 a0_7 a0_8 a0_9 a0_10 a0_11 a0_12 a0_13 a0_14 a0_15 a0_16 a0_17 a0_18 a0_19 a0_20 a0_21 a0_22 a0_23 a0_24 a0_25 a0_26 l0_27 a0_28 a0_29 a0_30 a0_31).bind fun q =>
  (flotillaref0_SameLabels.f k l0_4 l0_4).bind fun s4 => (flotillaref0_SameLabels.f k l0_27 l0_27).bind fun s27 =>
  (flotillakit_KeptFullLabels.f k full4 l0_4).bind fun t4 => (flotillakit_KeptFullLabels.f k full27 l0_27).bind fun t27 =>
    if (full4.length = l0_4.length + 16 ∧ full27.length = l0_27.length + 16) ∧ (full4.take l0_4.length = l0_4 ∧ full27.take l0_27.length = l0_27) ∧ p = q ∧ (s4 = true ∧ s27 = true) ∧ t4 = true ∧ t27 = true then some true else none
theorem flotillalaw05_DigestTemplate.take_d {P : Program} {md : Region.Mode} {ops : Array Oper} {Q : Exit → Act → World → Prop} {S : World → Prop} {i d : Nat} {oi : Oper} {v : Value} {fuel : Nat} {listed : Array Bool} {a : Act} {w : World} (hi : ops[i]? = some oi) (hd : oi.dst = some d)
    (hs : Region.noSelect ops = true) (hf : Region.free md ops listed i = true) (hr : (Region.ready md ops listed).contains i = true)
    (hQ : ∀ c a w, Q (.panic c) (a.put oi.dst v) w → Q (.panic c) a w) (hy : YieldsIf P ops S oi v a) (hS : S w)
    (h : wpAnyH P md ops Q S fuel (listed.setIfInBounds i true) { a with tmps := a.tmps.setIfInBounds d v } w) : wpAnyH P md ops Q S (fuel + 1) listed a w :=
  wpAnyH_take hi hs hf hr hQ hy hS (by rw [hd]; exact h)
theorem flotillalaw05_DigestTemplate.setRow1 (w : World) (c c' : Array Value) (t : TypeId) : (w.alloc (.cells c t)).setRow w.heap.size c' = w.alloc (.cells c' t) := by
  exact World.setRow_alloc_new w c c' t
theorem flotillalaw05_DigestTemplate.range_of {W : World} {B : Nat} {cs : List Value} {t : TypeId} {fr : Nat × Nat} (h : W.heap[B]? = some (.cells cs.toArray t fr)) : W.rangeAt B 0 cs := by
  intro j v hv
  rw [Nat.zero_add, cell_of_row W B j _ _ _ h]
  simpa using hv
theorem flotillalaw05_DigestTemplate.range_below {W W1 : World} {b o : Nat} {cs : List Value} (hr : W.rangeAt b o cs) (hb : Below W.heap.size W W1) (h : b < W.heap.size) : W1.rangeAt b o cs :=
  fun j u hj => (hb.cell (p := ⟨b, o + j, none⟩) h).trans (hr j u hj)
set_option maxHeartbeats 2000000 in
set_option maxRecDepth 100000 in
theorem flotillalaw05_DigestTemplate.short (x : S32) (A4 A27 : Option Addr) (c4 c27 : Nat) (w : World)
    (CL : ∀ w0, Below w.heap.size w w0 → Calls Try.prog 12 #[.agg (objv x (.slice A4 x.f4.length c4) (.slice A27 x.f25.length c27)).toArray] w0 fun e w' => e = .returned (.bool true) ∧ Below w0.heap.size w0 w') :
    Calls Try.prog 4 #[.agg (objv x (.slice A4 x.f4.length c4) (.slice A27 x.f25.length c27)).toArray] w fun e w' => e = .returned (.bool true) ∧ Below w.heap.size w w' := by
  have hu := Try.underlying32
  have SP := Lib.hid (objv_size x (.slice A4 x.f4.length c4) (.slice A27 x.f25.length c27))
  obtain ⟨P, hP⟩ : ∃ P, objv x (.slice A4 x.f4.length c4) (.slice A27 x.f25.length c27) = P := ⟨_, rfl⟩
  rw [hP] at SP CL ⊢
  clear hP
  have C0 := Lib.hid CL
  clear CL
  have HW := Lib.hid (heap_alloc_new w (.cells P.toArray 32))
  go_enter Try.func4, Try.ntmps4
  go_wp2_with (first
    | (refine wpList_load_row rfl 32 (.tmp 1) rfl w.heap.size rfl _ _ _ _ HW.out hu rfl SP.out ?_)
    | fail)
  have hb0 : Below w.heap.size w (w.alloc (.cells P.toArray 32)) := (Below.refl _ _).alloc (Nat.le_refl _) _
  refine (C0.out _ hb0).mono ?_
  rintro e w1 ⟨rfl, b1⟩
  have b2 := below_step hb0 b1
  clear b1 hb0 HW
  go_wp2_with fail
  go_ret
  exact ⟨rfl, b2⟩
set_option maxHeartbeats 4000000 in
set_option maxRecDepth 100000 in
theorem flotillalaw05_DigestTemplate.walk (k : Nat) (x : S32) (A4 A27 : Option Addr) (c4 c27 : Nat) (full4 full27 : List (S51)) (p : Int) (w : World)
    (h1 : Kd.C k51 w A4 x.f4.length x.f4) (g1 : x.f4.length ≤ c4) (h3 : Kd.C k51 w A27 x.f25.length x.f25) (g3 : x.f25.length ≤ c27)
    (n4 : full4.length = x.f4.length + 16) (n27 : full27.length = x.f25.length + 16) (u4 : flotillakit_FullLabels.f k x.f4 = some full4) (u27 : flotillakit_FullLabels.f k x.f25 = some full27)
    (t4 : full4.take x.f4.length = x.f4) (t27 : full27.take x.f25.length = x.f25)
    (e1 : flotillaref0_SameLabels.f k x.f4 x.f4 = some true) (e2 : flotillaref0_SameLabels.f k x.f25 x.f25 = some true)
    (e3 : flotillakit_KeptFullLabels.f k full4 x.f4 = some true) (e4 : flotillakit_KeptFullLabels.f k full27 x.f25 = some true)
    (CL : ∀ w0, Below w.heap.size w w0 → Calls Try.prog 12 #[.agg (objv x (.slice A4 x.f4.length c4) (.slice A27 x.f25.length c27)).toArray] w0 fun e w' => e = .returned (.bool false) ∧ Below w0.heap.size w0 w')
    (CR : ∀ w0, Below w.heap.size w w0 → Calls Try.prog 15 #[.agg (objv x (.slice A4 x.f4.length c4) (.slice A27 x.f25.length c27)).toArray] w0 fun e w' => e = .returned (.int .u64 p) ∧ Below w0.heap.size w0 w')
    (CT : ∀ (a4 a27 : Option Addr) (d4 d27 : Nat) w0, Kd.C k51 w0 a4 x.f4.length x.f4 → x.f4.length ≤ d4 → Kd.C k51 w0 a27 x.f25.length x.f25 → x.f25.length ≤ d27 →
      Calls Try.prog 14 #[.agg (objv x (.slice a4 x.f4.length d4) (.slice a27 x.f25.length d27)).toArray] w0 fun e w' => e = .returned (.int .u64 p) ∧ Below w0.heap.size w0 w') :
    Calls Try.prog 4 #[.agg (objv x (.slice A4 x.f4.length c4) (.slice A27 x.f25.length c27)).toArray] w fun e w' => e = .returned (.bool true) ∧ Below w.heap.size w w' := by
  have hu := Try.underlying32
  have H1 := Lib.hid h1
  have H3 := Lib.hid h3
  have TC := Lib.hid CT
  have SP := Lib.hid (objv_size x (.slice A4 x.f4.length c4) (.slice A27 x.f25.length c27))
  have CE := Lib.hid (fun w0 (hb : Below w.heap.size w w0) => flotillakit_LentObject.lent k x A4 A27 c4 c27 full4 full27 w0 (Kd.C_below h1 hb) g1 (Kd.C_below h3 hb) g3 n4 n27 u4 u27)
  have CK := Lib.hid (fun a4 a27 d4 d27 w0 (hb : Below w.heap.size w w0) r4 l4 r27 l27 => flotillakit_KeptObject.kept k x a4 a27 A4 A27 d4 c4 d27 c27 full4 full27 w0 r4 l4 (Kd.C_below h1 hb) g1 r27 l27 (Kd.C_below h3 hb) g3 n4 n27 t4 t27 e1 e2 e3 e4)
  have TK := Lib.hid (show ∀ (a : Addr) w0, Kd.C k51 w0 (some a) full4.length full4 → Kd.C k51 w0 (some a) x.f4.length x.f4 from fun a w0 h => by
    have := Kd.C_take (m := x.f4.length) h (by omega)
    rwa [t4] at this)
  have TK7 := Lib.hid (show ∀ (a : Addr) w0, Kd.C k51 w0 (some a) full27.length full27 → Kd.C k51 w0 (some a) x.f25.length x.f25 from fun a w0 h => by
    have := Kd.C_take (m := x.f25.length) h (by omega)
    rwa [t27] at this)
  have N4 := Lib.hid n4
  have N27 := Lib.hid n27
  obtain ⟨P, hP⟩ : ∃ P, objv x (.slice A4 x.f4.length c4) (.slice A27 x.f25.length c27) = P := ⟨_, rfl⟩
  have LP := Lib.hid (show P.length = 32 by rw [← hP]; rfl)
  rw [hP] at SP CL CR CE CK ⊢
  clear hP
  have C0 := Lib.hid CL
  have CR0 := Lib.hid CR
  clear CL CR CT e1 e2 e3 e4 t4 t27 u4 u27 n4 n27 h1 h3
  have HW := Lib.hid (heap_alloc_new w (.cells P.toArray 32))
  go_enter Try.func4, Try.ntmps4
  go_wp2_with (first
    | (refine wpList_load_row rfl 32 (.tmp 1) rfl w.heap.size rfl _ _ _ _ HW.out hu rfl SP.out ?_)
    | fail)
  have hb0 : Below w.heap.size w (w.alloc (.cells P.toArray 32)) := (Below.refl _ _).alloc (Nat.le_refl _) _
  refine (C0.out _ hb0).mono ?_
  rintro e w1 ⟨rfl, b1⟩
  have b2 := Lib.hid (below_step hb0 b1)
  have HA := Lib.hid ((b1.block w.heap.size (by simp)).trans HW.out)
  clear b1 hb0 HW
  go_wp2_with (first
    | (refine wpList_load_row rfl 32 (.tmp 1) rfl w.heap.size rfl _ _ _ _ HA.out hu rfl SP.out ?_)
    | fail)
  refine (CE.out _ b2.out).mono ?_
  rintro e w2 ⟨a4, a27, d4, d27, rfl, l4, r4, k4, l27, r27, k27, b3⟩
  have HA2 := Lib.hid ((b3.block w.heap.size (Array.getElem?_eq_some_iff.1 HA.out).1).trans HA.out)
  have b4 := Lib.hid (below_step b2.out b3)
  have CK1 := CK.out a4 a27 d4 d27
  have TC1 := TC.out (some a4) (some a27) d4 d27
  have SQ := Lib.hid (objv_size x (.slice (some a4) x.f4.length d4) (.slice (some a27) x.f25.length d27))
  have OQ := Lib.hid (objv_one x (.slice (some a4) x.f4.length d4) (.slice (some a27) x.f25.length d27) rfl rfl)
  obtain ⟨Q, hQ⟩ : ∃ Q, objv x (.slice (some a4) x.f4.length d4) (.slice (some a27) x.f25.length d27) = Q := ⟨_, rfl⟩
  have LQ := Lib.hid (show Q.length = 32 by rw [← hQ]; rfl)
  have SZ := Lib.hid (show 32 = Q.toArray.size by simp [LQ.out])
  rw [hQ] at CK1 TC1 SQ OQ ⊢
  have CK2 := Lib.hid CK1
  have TC2 := Lib.hid TC1
  have R4 := Lib.hid r4
  have R27 := Lib.hid r27
  clear hQ b3 HA CK CK1 TC1 TC r4 r27
  go_wp2_with (first
    | (refine wpList_store_row rfl 32 (.tmp 3) (.tmp 7) rfl w2.heap.size Q.toArray rfl rfl _ _ (heap_alloc_new w2 _) SQ.out SZ.out OQ.out ?_; rw [flotillalaw05_DigestTemplate.setRow1])
    | fail)
  have hW := heap_alloc_new w2 (.cells Q.toArray 32)
  have hlt2 : w.heap.size < w2.heap.size := (Array.getElem?_eq_some_iff.1 HA2.out).1
  have hV : (w2.alloc (.cells Q.toArray 32)).heap[w.heap.size]? = some (.cells P.toArray 32 (0, 0)) := (heap_alloc_old _ _ hlt2).trans HA2.out
  have b5 : Below w.heap.size w (w2.alloc (.cells Q.toArray 32)) := b4.out.alloc (by omega) _
  have b6 : Below w2.heap.size w2 (w2.alloc (.cells Q.toArray 32)) := (Below.refl _ _).alloc (Nat.le_refl _) _
  have hsz : w2.heap.size < (w2.alloc (.cells Q.toArray 32)).heap.size := by simp
  have R4' := Lib.hid (Kd.C_below R4.out b6)
  have R27' := Lib.hid (Kd.C_below R27.out b6)
  obtain ⟨w3, hw3⟩ : ∃ w3, w2.alloc (.cells Q.toArray 32) = w3 := ⟨_, rfl⟩
  rw [hw3] at hW hV b5 hsz R4' R27' ⊢
  have rP := flotillalaw05_DigestTemplate.range_of hV
  have rQ := flotillalaw05_DigestTemplate.range_of hW
  have B5 := Lib.hid b5
  have ZP : (Try.prog.info? 32).map (·.size) = some P.length := by simpa using SP.out
  have ZQ : (Try.prog.info? 32).map (·.size) = some Q.length := by simpa using SQ.out
  clear hw3 hW hV b5 b6 R4 R27
  refine wp_region_held_drew (S := fun w' => w'.rangeAt w.heap.size 0 P ∧ w'.rangeAt w2.heap.size 0 Q) (by kernel_rfl) ?_ (fun hHeld => ?_)
  · exact ⟨(World.rangeAt_drew _ _ _ _).2 rP, (World.rangeAt_drew _ _ _ _).2 rQ⟩
  refine wpAnyH_take (i := 0) rfl (by kernel_rfl) (by kernel_rfl) (by kernel_rfl) (fun _ _ _ h => h) (yieldsIf_load_mid (by rfl) _ _ rfl _ _ rfl Q _ (fun _ h => h.2) hu rfl ZQ) hHeld ?_
  refine wpAnyH_take (i := 2) rfl (by kernel_rfl) (by kernel_rfl) (by kernel_rfl) (fun _ _ _ h => h) (yieldsIf_load_mid (by rfl) _ _ rfl _ _ rfl P _ (fun _ h => h.1) hu rfl ZP) hHeld ?_
  simp only [Act.put, List.setIfInBounds_toArray, List.set_cons_zero, List.set_cons_succ]
  refine wpAnyH_ready (rs := [1]) (by kernel_rfl) (by simp) ?_
  refine AllReadyH.cons rfl (fun K hK => ?_) AllReadyH.nil
  have hd3 : Below w3.heap.size w3 w3.drew := (Below.refl _ _).drew
  have hm4 : x.f4.length ≤ d4 := by have := N4.out; omega
  have hm27 : x.f25.length ≤ d27 := by have := N27.out; omega
  rw [if_pos (by rfl)]
  go_simp
  refine (TC2.out _ (TK.out a4 _ (Kd.C_below R4'.out hd3)) hm4 (TK7.out a27 _ (Kd.C_below R27'.out hd3)) hm27).mono ?_
  rintro e w4 ⟨rfl, b7⟩
  have b8 := Lib.hid (hd3.trans b7)
  have hltP : w.heap.size < w3.heap.size := by omega
  have hr4 := flotillalaw05_DigestTemplate.range_below rP b8.out hltP
  have hq4 := flotillalaw05_DigestTemplate.range_below rQ b8.out hsz
  have sz4 := b8.out.size
  have B6 := Lib.hid (below_step B5.out b8.out)
  have R44 := Lib.hid (Kd.C_below R4'.out b8.out)
  have R274 := Lib.hid (Kd.C_below R27'.out b8.out)
  clear b7 hHeld b8
  dsimp only
  refine hK.out _ _ ⟨hr4, hq4⟩ (fun hHeld => ?_)
  clear hK K
  refine wpAnyH_ready (rs := [3]) (by kernel_rfl) (by simp) ?_
  refine AllReadyH.cons rfl (fun K hK => ?_) AllReadyH.nil
  rw [if_pos (by rfl)]
  go_simp
  refine (CR0.out _ B6.out).mono ?_
  rintro e w5 ⟨rfl, b9⟩
  have hr5 := flotillalaw05_DigestTemplate.range_below hr4 b9 (by omega)
  have hq5 := flotillalaw05_DigestTemplate.range_below hq4 b9 (by omega)
  have sz5 := b9.size
  have B7 := Lib.hid (below_step B6.out b9)
  have R45 := Lib.hid (Kd.C_below R44.out b9)
  have R275 := Lib.hid (Kd.C_below R274.out b9)
  clear b9 hHeld
  dsimp only
  refine hK.out _ _ ⟨hr5, hq5⟩ (fun hHeld => ?_)
  clear hK K
  refine wpAnyH_take (i := 4) (v := .bool true) rfl (by kernel_rfl) (by kernel_rfl) (by kernel_rfl) (fun _ _ _ h => h) (Or.inl ⟨by rfl, fun w _ => by go_simp⟩) hHeld ?_
  simp only [Act.put, List.setIfInBounds_toArray, List.set_cons_zero, List.set_cons_succ]
  refine wpAnyH_take (i := 5) (v := .bool true) rfl (by kernel_rfl) (by kernel_rfl) (by kernel_rfl) (fun _ _ _ h => h) (Or.inl ⟨by rfl, fun w _ => by go_simp⟩) hHeld ?_
  simp only [Act.put, List.setIfInBounds_toArray, List.set_cons_zero, List.set_cons_succ]
  refine wpAnyH_take (i := 6) rfl (by kernel_rfl) (by kernel_rfl) (by kernel_rfl) (fun _ _ _ h => h) (yieldsIf_load_mid (by rfl) _ _ rfl _ _ rfl Q _ (fun _ h => h.2) hu rfl ZQ) hHeld ?_
  refine wpAnyH_take (i := 7) rfl (by kernel_rfl) (by kernel_rfl) (by kernel_rfl) (fun _ _ _ h => h) (yieldsIf_load_mid (by rfl) _ _ rfl _ _ rfl P _ (fun _ h => h.1) hu rfl ZP) hHeld ?_
  simp only [Act.put, List.setIfInBounds_toArray, List.set_cons_zero, List.set_cons_succ]
  refine wpAnyH_ready (rs := [8]) (by kernel_rfl) (by simp) ?_
  refine AllReadyH.cons rfl (fun K hK => ?_) AllReadyH.nil
  rw [if_pos (by rfl)]
  go_simp
  refine (CK2.out _ B7.out R45.out l4 R275.out l27).mono ?_
  rintro e w6 ⟨rfl, b10⟩
  have hr6 := flotillalaw05_DigestTemplate.range_below hr5 b10 (by omega)
  have hq6 := flotillalaw05_DigestTemplate.range_below hq5 b10 (by omega)
  have B8 := Lib.hid (below_step B7.out b10)
  clear b10 hHeld
  dsimp only
  refine hK.out _ _ ⟨hr6, hq6⟩ (fun hHeld => ?_)
  clear hK K
  refine flotillalaw05_DigestTemplate.take_d (i := 9) (d := 17) (v := .bool true) rfl rfl (by kernel_rfl) (by kernel_rfl) (by kernel_rfl) (fun _ _ _ h => h) (Or.inl ⟨by rfl, fun w _ => by go_simp⟩) hHeld ?_
  simp only [Act.put, List.setIfInBounds_toArray, List.set_cons_zero, List.set_cons_succ]
  refine flotillalaw05_DigestTemplate.take_d (i := 10) (d := 2) (v := .bool true) rfl rfl (by kernel_rfl) (by kernel_rfl) (by kernel_rfl) (fun _ _ _ h => h) (Or.inl ⟨by rfl, fun w _ => by go_simp⟩) hHeld ?_
  simp only [Act.put, List.setIfInBounds_toArray, List.set_cons_zero, List.set_cons_succ]
  refine wpAnyH_done (by kernel_rfl) ?_ _
  go_wp2_with fail
  go_ret
  exact ⟨rfl, B8.out⟩
set_option maxHeartbeats 2000000 in
set_option maxRecDepth 100000 in
theorem flotillalaw05_DigestTemplate.calls (k : Nat) (a0_0 : Int) (a0_1 : ByteArray) (a0_2 : Int) (a0_3 : Int) (A0_4 : Option Addr) (c0_4 : Nat) (l0_4 : List (S51)) (a0_5 : Int) (a0_6 : Int) (a0_7 : Bool) (a0_8 : Bool) (a0_9 : Bool) (a0_10 : Int) (a0_11 : ByteArray) (a0_12 : ByteArray) (a0_13 : ByteArray) (a0_14 : Int) (a0_15 : Bool) (a0_16 : Bool) (a0_17 : Int) (a0_18 : Int) (a0_19 : ByteArray) (a0_20 : Int) (a0_21 : Int) (a0_22 : Int) (a0_23 : Int) (a0_24 : Int) (a0_25 : Bool) (a0_26 : Int) (A0_27 : Option Addr) (c0_27 : Nat) (l0_27 : List (S51)) (a0_28 : Int) (a0_29 : ByteArray) (a0_30 : Int) (a0_31 : Int) (r : Bool) (w : World) (hr0_4 : Kd.C k51 w A0_4 l0_4.length l0_4) (hc0_4 : l0_4.length ≤ c0_4) (hr0_27 : Kd.C k51 w A0_27 l0_27.length l0_27) (hc0_27 : l0_27.length ≤ c0_27) (h : flotillalaw05_DigestTemplate.f k a0_0 a0_1 a0_2 a0_3 l0_4 a0_5 a0_6 a0_7 a0_8 a0_9 a0_10 a0_11 a0_12 a0_13 a0_14 a0_15 a0_16 a0_17 a0_18 a0_19 a0_20 a0_21 a0_22 a0_23 a0_24 a0_25 a0_26 l0_27 a0_28 a0_29 a0_30 a0_31 = some r) :
    Calls Try.prog 4 #[.agg #[.int .i64 a0_0, .string a0_1, .int .i64 a0_2, .int .i64 a0_3, .slice A0_4 l0_4.length c0_4, .int .i64 a0_5, .int .i64 a0_6, .bool a0_7, .bool a0_8, .bool a0_9, .int .i64 a0_10, .string a0_11, .string a0_12, .string a0_13, .int .i64 a0_14, .bool a0_15, .bool a0_16, .int .i64 a0_17, .int .i64 a0_18, .string a0_19, .int .i64 a0_20, .int .i64 a0_21, .int .i64 a0_22, .int .i64 a0_23, .int .i64 a0_24, .bool a0_25, .int .u64 a0_26, .slice A0_27 l0_27.length c0_27, .int .i64 a0_28, .string a0_29, .int .i64 a0_30, .int .i64 a0_31]] w fun e w' => e = .returned (.bool r) ∧ Below w.heap.size w w' := by
  unfold flotillalaw05_DigestTemplate.f at h
  obtain ⟨b, hb, h⟩ := Option.bind_eq_some_iff.mp h
  have CL := fun w0 (hw : Below w.heap.size w w0) => flotillalaw05_long.calls k a0_0 a0_1 a0_2 a0_3 A0_4 c0_4 l0_4 a0_5 a0_6 a0_7 a0_8 a0_9 a0_10 a0_11 a0_12 a0_13 a0_14 a0_15 a0_16 a0_17 a0_18 a0_19 a0_20 a0_21 a0_22 a0_23 a0_24 a0_25 a0_26 A0_27 c0_27 l0_27 a0_28 a0_29 a0_30 a0_31 b w0 (Kd.C_below hr0_4 hw) hc0_4 (Kd.C_below hr0_27 hw) hc0_27 hb
  cases b with
  | true =>
    rw [if_pos rfl] at h
    obtain rfl := Option.some.inj h
    exact flotillalaw05_DigestTemplate.short ⟨a0_0, a0_1, a0_2, a0_3, l0_4, ⟨a0_5, a0_6⟩, a0_7, a0_8, a0_9, a0_10, a0_11, a0_12, a0_13, a0_14, a0_15, a0_16, ⟨a0_17, a0_18⟩, a0_19, a0_20, a0_21, a0_22, a0_23, a0_24, a0_25, a0_26, l0_27, a0_28, a0_29, a0_30, a0_31⟩ A0_4 A0_27 c0_4 c0_27 w CL
  | false =>
    rw [if_neg (by decide)] at h
    obtain ⟨full4, hf4, h⟩ := Option.bind_eq_some_iff.mp h
    obtain ⟨full27, hf27, h⟩ := Option.bind_eq_some_iff.mp h
    obtain ⟨p, hp, h⟩ := Option.bind_eq_some_iff.mp h
    obtain ⟨q, hq, h⟩ := Option.bind_eq_some_iff.mp h
    obtain ⟨s4, hs4, h⟩ := Option.bind_eq_some_iff.mp h
    obtain ⟨s27, hs27, h⟩ := Option.bind_eq_some_iff.mp h
    obtain ⟨t4, ht4, h⟩ := Option.bind_eq_some_iff.mp h
    obtain ⟨t27, ht27, h⟩ := Option.bind_eq_some_iff.mp h
    split at h
    · rename_i hc
      obtain rfl := Option.some.inj h
      obtain ⟨⟨n4, n27⟩, ⟨k4, k27⟩, rfl, ⟨rfl, rfl⟩, rfl, rfl⟩ := hc
      exact flotillalaw05_DigestTemplate.walk k ⟨a0_0, a0_1, a0_2, a0_3, l0_4, ⟨a0_5, a0_6⟩, a0_7, a0_8, a0_9, a0_10, a0_11, a0_12, a0_13, a0_14, a0_15, a0_16, ⟨a0_17, a0_18⟩, a0_19, a0_20, a0_21, a0_22, a0_23, a0_24, a0_25, a0_26, l0_27, a0_28, a0_29, a0_30, a0_31⟩ A0_4 A0_27 c0_4 c0_27 full4 full27 p w hr0_4 hc0_4 hr0_27 hc0_27 n4 n27 hf4 hf27 k4 k27 hs4 hs27 ht4 ht27 CL
        (fun w0 hw => flotillaref05_Template.calls k a0_0 a0_1 a0_2 a0_3 A0_4 c0_4 l0_4 a0_5 a0_6 a0_7 a0_8 a0_9 a0_10 a0_11 a0_12 a0_13 a0_14 a0_15 a0_16 a0_17 a0_18 a0_19 a0_20 a0_21 a0_22 a0_23 a0_24 a0_25 a0_26 A0_27 c0_27 l0_27 a0_28 a0_29 a0_30 a0_31 p w0 (Kd.C_below hr0_4 hw) hc0_4 (Kd.C_below hr0_27 hw) hc0_27 hq)
        (fun A0_4 A0_27 c0_4 c0_27 w0 h1 g1 h2 g2 => digest_Template.calls a0_0 a0_1 a0_2 a0_3 A0_4 c0_4 l0_4 a0_5 a0_6 a0_7 a0_8 a0_9 a0_10 a0_11 a0_12 a0_13 a0_14 a0_15 a0_16 a0_17 a0_18 a0_19 a0_20 a0_21 a0_22 a0_23 a0_24 a0_25 a0_26 A0_27 c0_27 l0_27 a0_28 a0_29 a0_30 a0_31 p w0 h1 g1 h2 g2 hp)
    · cases h

end Go.Proofs.Ytalkodandfjkmaa.Print
