/- The functions below as plain Lean functions, each with the proof that the calls come to it; written by a program over the kit's print. -/
import Derived.Test.YtalkodandfjkmaaPrintx0
import Derived.Test.YtalkodandfjkmaaPrintx4
import Derived.Test.YtalkodandfjkmaaPrintx9
namespace Go.Proofs.Ytalkodandfjkmaa.Print
open Go.RowKit Go.Proofs.YtalkodandfjkmaaW.PrintWords Go.Proofs.YtalkodandfjkmaaW.PrintLast Go.Proofs.YtalkodandfjkmaaW.PrintMore
attribute [local go_sem] max2_int min2_int max_two min_two max_three min_three max_four min_four   -- for this text's walks alone
set_option linter.unusedVariables false
set_option linter.unusedSimpArgs false

/-! ### flotillakit_LentLabels: function 27 -/
/-- The list that is lent, and its spare room behind it. -/
theorem flotillakit_LentLabels.lent (k : Nat) (A0 : Option Addr) (c0 : Nat) (l0 full : List (S51)) (w : World) (hr0 : Kd.C k51 w A0 l0.length l0) (hc0 : l0.length ≤ c0) (hn : full.length = l0.length + 16) (h : flotillakit_FullLabels.f k l0 = some full) :
    Calls Try.prog 27 #[.slice A0 l0.length c0] w fun e w' => ∃ (ad : Addr) (c : Nat), e = .returned (.slice (some ad) l0.length c) ∧ full.length ≤ c ∧ Kd.C k51 w' (some ad) full.length full ∧ w.heap.size ≤ ad.block ∧ Below w.heap.size w w' := by
  have HN := Lib.hid hn
  go_enter Try.func27, Try.ntmps27
  go_wp2_with fail
  refine (flotillakit_FullLabels.calls k _ _ l0 full _ hr0 hc0 h).mono ?_
  rintro e w' ⟨v, rfl, ho, hb⟩
  obtain ⟨Ao, co, rfl⟩ := Kd.R_slice ho
  have hrd := Kd.R_reads' ho
  have hlen := HN.out
  have hco := hrd.2.1
  obtain ⟨ad, x1, _⟩ := hrd.2.2.2.2 (by omega)
  subst x1
  have hbk : w.heap.size ≤ ad.block := by
    obtain ⟨inner, hi⟩ := Kd.R_own ho
    exact own_base hi ad.block (by simp [Value.ownBlock])
  have hle : l0.length ≤ co := by omega
  have HRD := Lib.hid hrd
  have HCO := Lib.hid hco
  clear hn hrd hco ho hlen
  go_wp2_with fail
  go_ret
  exact ⟨ad, co, rfl, HCO.out, HRD.out.2.2, hbk, hb⟩
/-- A row of labels is left alone by a store into another block. -/
theorem flotillakit_LentLabels.C_far {w : World} {ad : Addr} {n : Nat} {xs : List (S51)} (h : Kd.C k51 w (some ad) n xs) {p : Addr} (hne : ad.block ≠ p.block) (u : Value) : Kd.C k51 (w.setCell p u) (some ad) n xs := by
  refine ⟨h.1, h.2.1, fun hn => ?_⟩
  obtain ⟨ad', e, hc⟩ := h.2.2 hn
  cases e
  refine ⟨_, rfl, fun j q hj => ?_⟩
  obtain ⟨c, hl, hR, hcell⟩ := hc j q hj
  refine ⟨c, hl, hR, fun i v hv => ?_⟩
  rw [World.cell?_setCell_other w p (ad.add _) u (fun e => hne (by rw [e]; unfold Addr.add; split <;> rfl))]
  exact hcell i v hv
/-- A row of labels is left alone by a store of a row into another block. -/
theorem flotillakit_LentLabels.C_farRow {w : World} {ad : Addr} {n : Nat} {xs : List (S51)} (h : Kd.C k51 w (some ad) n xs) {g : Nat} (hne : ad.block ≠ g) (cs : Array Value) : Kd.C k51 (w.setRow g cs) (some ad) n xs := by
  refine ⟨h.1, h.2.1, fun hn => ?_⟩
  obtain ⟨ad', e, hc⟩ := h.2.2 hn
  cases e
  refine ⟨_, rfl, fun j q hj => ?_⟩
  obtain ⟨c, hl, hR, hcell⟩ := hc j q hj
  refine ⟨c, hl, hR, fun i v hv => ?_⟩
  rw [cell_setRow_other w g cs (ad.add _) (fun e => hne (by rw [← e]; unfold Addr.add; split <;> rfl))]
  exact hcell i v hv

/-! ### flotillakit_LentObject: function 13 -/
set_option maxHeartbeats 2000000 in
set_option maxRecDepth 100000 in
/-- The object with its lists lent. -/
theorem flotillakit_LentObject.lent (k : Nat) (x : S32) (A4 A27 : Option Addr) (c4 c27 : Nat) (full4 full27 : List (S51)) (w : World)
    (h1 : Kd.C k51 w A4 x.f4.length x.f4) (g1 : x.f4.length ≤ c4) (h3 : Kd.C k51 w A27 x.f25.length x.f25) (g3 : x.f25.length ≤ c27)
    (n4 : full4.length = x.f4.length + 16) (n27 : full27.length = x.f25.length + 16) (e4 : flotillakit_FullLabels.f k x.f4 = some full4) (e27 : flotillakit_FullLabels.f k x.f25 = some full27) :
    Calls Try.prog 13 #[.agg (objv x (.slice A4 x.f4.length c4) (.slice A27 x.f25.length c27)).toArray] w fun e w' => ∃ (a4 a27 : Addr) (d4 d27 : Nat),
      e = .returned (.agg (objv x (.slice (some a4) x.f4.length d4) (.slice (some a27) x.f25.length d27)).toArray) ∧ full4.length ≤ d4 ∧ Kd.C k51 w' (some a4) full4.length full4 ∧ w.heap.size ≤ a4.block ∧
      full27.length ≤ d27 ∧ Kd.C k51 w' (some a27) full27.length full27 ∧ w.heap.size ≤ a27.block ∧ Below w.heap.size w w' := by
  have H1 := Lib.hid h1
  have H3 := Lib.hid h3
  have E4 := Lib.hid e4
  have E27 := Lib.hid e27
  have N4 := Lib.hid n4
  have N27 := Lib.hid n27
  clear h1 h3 e4 e27 n4 n27
  have hu := Try.underlying32
  have p4 := objv_4 x (.slice A4 x.f4.length c4) (.slice A27 x.f25.length c27)
  have p27 := objv_27 x (.slice A4 x.f4.length c4) (.slice A27 x.f25.length c27)
  have SP := Lib.hid (objv_size x (.slice A4 x.f4.length c4) (.slice A27 x.f25.length c27))
  have OP := Lib.hid (objv_one x (.slice A4 x.f4.length c4) (.slice A27 x.f25.length c27) rfl rfl)
  obtain ⟨P, hP⟩ : ∃ P, objv x (.slice A4 x.f4.length c4) (.slice A27 x.f25.length c27) = P := ⟨_, rfl⟩
  have LP := Lib.hid (show P.length = 32 by rw [← hP]; rfl)
  have HP := Lib.hid hP
  rw [hP] at p4 p27 SP OP ⊢
  clear hP
  have SZ := Lib.hid (show 32 = P.toArray.size by simp [LP.out])
  obtain ⟨Z, hZ⟩ : ∃ Z : Array Value, Z = #[.int .i64 0, .string ByteArray.empty, .int .i64 0, .int .i64 0, .slice none 0 0, .int .i64 0, .int .i64 0, .bool false, .bool false, .bool false, .int .i64 0, .string ByteArray.empty, .string ByteArray.empty, .string ByteArray.empty, .int .i64 0, .bool false, .bool false, .int .i64 0, .int .i64 0, .string ByteArray.empty, .int .i64 0, .int .i64 0, .int .i64 0, .int .i64 0, .int .i64 0, .bool false, .int .u64 0, .slice none 0 0, .int .i64 0, .string ByteArray.empty, .int .i64 0, .int .i64 0] := ⟨_, rfl⟩
  have ZH := Lib.hid hZ
  clear hZ
  go_enter Try.func13, Try.ntmps13
  go_wp2_with (first
    | (refine wpList_load_row rfl 32 (.tmp 1) rfl w.heap.size rfl _ _ _ _ (Go.Proofs.Ytalkodandfjkmaa.Mid.heap2 w _ _).1 hu rfl SP.out ?_)
    | (refine wpList_store_row rfl 32 (.tmp 3) (.tmp 4) rfl (w.heap.size + 1 + 1) P.toArray rfl rfl _ _ (Go.Proofs.Ytalkodandfjkmaa.Mid.heap3 w _ _ _).2.2.1 SP.out SZ.out OP.out ?_; rw [Go.Proofs.Ytalkodandfjkmaa.Mid.setRow3])
    | fail)
  obtain ⟨hA, hR, hX, hB⟩ := Go.Proofs.Ytalkodandfjkmaa.Mid.heap3 w (.cells P.toArray 32) (.cells Z 32) (.cells P.toArray 32)
  rw [ZH.out] at hA hR hX hB
  refine (flotillakit_LentLabels.lent k _ _ x.f4 full4 _ (Kd.C_below H1.out hB) g1 N4.out E4.out).mono ?_
  rintro e w1 ⟨a4, d4, rfl, l4, r4, k4, b1⟩
  have hs : (((w.alloc (.cells P.toArray 32)).alloc (.cells Z 32)).alloc (.cells P.toArray 32)).heap.size = w.heap.size + 1 + 1 + 1 := by simp
  rw [ZH.out] at hs
  have HA := Lib.hid ((b1.block w.heap.size (by rw [hs]; omega)).trans hA)
  have HR := Lib.hid ((b1.block (w.heap.size + 1) (by rw [hs]; omega)).trans hR)
  have HX := Lib.hid ((b1.block (w.heap.size + 1 + 1) (by rw [hs]; omega)).trans hX)
  have hk4 : w.heap.size ≤ a4.block ∧ a4.block ≠ w.heap.size + 1 + 1 ∧ a4.block ≠ w.heap.size + 1 := by rw [hs] at k4; omega
  have hb1 := below_step hB b1
  have R4 := Lib.hid r4
  have hsz := b1.size
  rw [hs] at hsz
  clear hA hR hX hB b1 hs r4 k4
  have cX : w1.cell? ⟨w.heap.size + 1 + 1, 4, none⟩ = some (.slice A4 x.f4.length c4) := by rw [cell_of_row _ _ _ _ _ _ HX.out]; simpa using p4
  have fX : w1.frozen? ⟨w.heap.size + 1 + 1, 4, none⟩ = false := frozen_of_row _ _ _ _ _ HX.out
  have cA : w1.cell? ⟨w.heap.size, 27, none⟩ = some (.slice A27 x.f25.length c27) := by rw [cell_of_row _ _ _ _ _ _ HA.out]; simpa using p27
  go_wp2_with fail
  obtain ⟨V4, hV4⟩ : ∃ V, Value.slice (some a4) x.f4.length d4 = V := ⟨_, rfl⟩
  have O4 := Lib.hid (show V4.oneCell' = true by rw [← hV4]; rfl)
  have HV4 := Lib.hid hV4
  rw [hV4]
  clear hV4 cX fX cA
  have hx2 := heap_setCell_same w1 (w.heap.size + 1 + 1) 4 _ _ V4 HX.out
  rw [show P.toArray.setIfInBounds 4 V4 = (objv x V4 (.slice A27 x.f25.length c27)).toArray by rw [← HP.out]; rfl] at hx2
  have HX2 := Lib.hid hx2
  have HA2 := Lib.hid ((heap_setCell_other w1 ⟨w.heap.size + 1 + 1, 4, none⟩ w.heap.size V4 (by simp; omega)).trans HA.out)
  have HR2 := Lib.hid ((heap_setCell_other w1 ⟨w.heap.size + 1 + 1, 4, none⟩ (w.heap.size + 1) V4 (by simp)).trans HR.out)
  have R42 := Lib.hid (flotillakit_LentLabels.C_far R4.out (p := ⟨w.heap.size + 1 + 1, 4, none⟩) hk4.2.1 V4)
  have hb2 : Below w.heap.size w (w1.setCell ⟨w.heap.size + 1 + 1, 4, none⟩ V4) := hb1.setCell (by simp; omega) _
  have hsz2 : w.heap.size + 1 + 1 + 1 ≤ (w1.setCell ⟨w.heap.size + 1 + 1, 4, none⟩ V4).heap.size := by simpa [World.setCell] using hsz
  have h4lt : a4.block < (w1.setCell ⟨w.heap.size + 1 + 1, 4, none⟩ V4).heap.size := by
    have := R4.out
    have hpos : 0 < full4.length := by have := N4.out; omega
    obtain ⟨ad', e, hc⟩ := this.2.2 hpos
    cases e
    obtain ⟨c, hl, hRR, hcell⟩ := hc 0 _ (List.getElem?_eq_getElem hpos)
    have hl2 : 0 < c.length := by rw [hl]; decide
    have := World.block_lt_of_cell? w1 _ (hcell 0 _ (List.getElem?_eq_getElem hl2))
    have e : (a4.add (0 * k51.sz + 0)).block = a4.block := by unfold Addr.add; split <;> rfl
    rw [e] at this
    simpa [World.setCell] using this
  clear hx2 R4 HX HA HR hb1 hsz
  obtain ⟨w2, hw2⟩ : ∃ w2, w1.setCell ⟨w.heap.size + 1 + 1, 4, none⟩ V4 = w2 := ⟨_, rfl⟩
  rw [hw2] at HX2 HA2 HR2 R42 hb2 hsz2 h4lt ⊢
  clear hw2
  refine (flotillakit_LentLabels.lent k _ _ x.f25 full27 _ (Kd.C_below H3.out hb2) g3 N27.out E27.out).mono ?_
  rintro e w3 ⟨a27, d27, rfl, l27, r27, k27, b3⟩
  have HX3 := Lib.hid ((b3.block (w.heap.size + 1 + 1) (by omega)).trans HX2.out)
  have HR3 := Lib.hid ((b3.block (w.heap.size + 1) (by omega)).trans HR2.out)
  have R43 := Lib.hid (Kd.C_below R42.out b3)
  have R27 := Lib.hid r27
  have hb3 := below_step hb2 b3
  have hk27 : w.heap.size ≤ a27.block ∧ a27.block ≠ w.heap.size + 1 + 1 ∧ a27.block ≠ w.heap.size + 1 := by omega
  clear r27 k27 b3 HX2 HA2 HR2 R42 hb2 hsz2 h4lt
  have cX : w3.cell? ⟨w.heap.size + 1 + 1, 27, none⟩ = some (.slice A27 x.f25.length c27) := by rw [cell_of_row _ _ _ _ _ _ HX3.out]; rfl
  have fX : w3.frozen? ⟨w.heap.size + 1 + 1, 27, none⟩ = false := frozen_of_row _ _ _ _ _ HX3.out
  have hx4 := heap_setCell_same w3 (w.heap.size + 1 + 1) 27 _ _ (Value.slice (some a27) x.f25.length d27) HX3.out
  rw [objv_set27] at hx4
  have HX4 := Lib.hid hx4
  have hr4 := (heap_setCell_other w3 ⟨w.heap.size + 1 + 1, 27, none⟩ (w.heap.size + 1) (Value.slice (some a27) x.f25.length d27) (by simp)).trans HR3.out
  rw [← ZH.out] at hr4
  have HR4 := Lib.hid hr4
  clear hr4
  have R44 := Lib.hid (flotillakit_LentLabels.C_far R43.out (p := ⟨w.heap.size + 1 + 1, 27, none⟩) hk4.2.1 (Value.slice (some a27) x.f25.length d27))
  have R274 := Lib.hid (flotillakit_LentLabels.C_far R27.out (p := ⟨w.heap.size + 1 + 1, 27, none⟩) hk27.2.1 (Value.slice (some a27) x.f25.length d27))
  have hb4 : Below w.heap.size w (w3.setCell ⟨w.heap.size + 1 + 1, 27, none⟩ (Value.slice (some a27) x.f25.length d27)) := hb3.setCell (by simp; omega) _
  have SQ := Lib.hid (objv_size x V4 (Value.slice (some a27) x.f25.length d27))
  have OQ := Lib.hid (objv_one x V4 (Value.slice (some a27) x.f25.length d27) O4.out rfl)
  obtain ⟨Q, hQ⟩ : ∃ Q, objv x V4 (Value.slice (some a27) x.f25.length d27) = Q := ⟨_, rfl⟩
  have LQ : Q.length = 32 := by rw [← hQ]; rfl
  have HQ := Lib.hid hQ
  rw [hQ] at HX4 SQ OQ
  have SZ2 := Lib.hid (show Z.size = Q.toArray.size by rw [ZH.out]; simp [LQ])
  have HRE := Lib.hid (setRow_heap _ (w.heap.size + 1) _ Q.toArray _ _ HR4.out)
  have hb5 := below_setRow hb4 (show w.heap.size ≤ w.heap.size + 1 by omega) Q.toArray
  clear hQ LQ hx4 R43 R27 HX3 HR3 hb3
  go_wp2_with (first
    | (refine wpList_load_row rfl 32 (.tmp 3) rfl (w.heap.size + 1 + 1) rfl _ _ _ _ HX4.out hu rfl SQ.out ?_)
    | (refine wpList_store_row rfl 32 (.tmp 2) (.tmp 13) rfl (w.heap.size + 1) Q.toArray rfl rfl _ _ HR4.out SQ.out SZ2.out OQ.out ?_)
    | fail)
  rw [HV4.out.symm] at HQ
  have hne4 := hk4.2.2
  have hne27 := hk27.2.2
  exact bodyPost_ret (v := .agg Q.toArray) (results_cell_row rfl _ _ _ _ _ _ _ rfl HRE.out hu rfl SQ.out) rfl ⟨a4, a27, d4, d27, by rw [HQ.out], l4, flotillakit_LentLabels.C_farRow R44.out hne4 _, hk4.1, l27, flotillakit_LentLabels.C_farRow R274.out hne27 _, hk27.1, hb5⟩

/-! ### digest_Template: function 14 -/
def digest_Template.f (a0_0 : Int) (a0_1 : ByteArray) (a0_2 : Int) (a0_3 : Int) (l0_4 : List (S51)) (a0_5 : Int) (a0_6 : Int) (a0_7 : Bool) (a0_8 : Bool) (a0_9 : Bool) (a0_10 : Int) (a0_11 : ByteArray) (a0_12 : ByteArray) (a0_13 : ByteArray) (a0_14 : Int) (a0_15 : Bool) (a0_16 : Bool) (a0_17 : Int) (a0_18 : Int) (a0_19 : ByteArray) (a0_20 : Int) (a0_21 : Int) (a0_22 : Int) (a0_23 : Int) (a0_24 : Int) (a0_25 : Bool) (a0_26 : Int) (l0_27 : List (S51)) (a0_28 : Int) (a0_29 : ByteArray) (a0_30 : Int) (a0_31 : Int) : Option (Int) := if a0_19.size ≤ 140737488351232 ∧ ∀ x ∈ l0_4, x.f0.size ≤ 140737488351232 ∧ x.f1.size ≤ 140737488351232 then some (Go.Proofs.Ytalkodandfjkmaa.Dig.fnvL 14695981039346656037 (Go.Proofs.Ytalkodandfjkmaa.Dig.itsB (Go.Proofs.Ytalkodandfjkmaa.Dig.tmplIts a0_19 a0_17 a0_18 a0_20 a0_21 (l0_4.map fun x => (x.f0, x.f1)) ++ Go.Proofs.Ytalkodandfjkmaa.Dig.labIts (l0_4.map fun x => (x.f0, x.f1))))) else none
theorem digest_Template.calls (a0_0 : Int) (a0_1 : ByteArray) (a0_2 : Int) (a0_3 : Int) (A0_4 : Option Addr) (c0_4 : Nat) (l0_4 : List (S51)) (a0_5 : Int) (a0_6 : Int) (a0_7 : Bool) (a0_8 : Bool) (a0_9 : Bool) (a0_10 : Int) (a0_11 : ByteArray) (a0_12 : ByteArray) (a0_13 : ByteArray) (a0_14 : Int) (a0_15 : Bool) (a0_16 : Bool) (a0_17 : Int) (a0_18 : Int) (a0_19 : ByteArray) (a0_20 : Int) (a0_21 : Int) (a0_22 : Int) (a0_23 : Int) (a0_24 : Int) (a0_25 : Bool) (a0_26 : Int) (A0_27 : Option Addr) (c0_27 : Nat) (l0_27 : List (S51)) (a0_28 : Int) (a0_29 : ByteArray) (a0_30 : Int) (a0_31 : Int) (r : Int) (w : World) (hr0_4 : Kd.C k51 w A0_4 l0_4.length l0_4) (hc0_4 : l0_4.length ≤ c0_4) (hr0_27 : Kd.C k51 w A0_27 l0_27.length l0_27) (hc0_27 : l0_27.length ≤ c0_27) (h : digest_Template.f a0_0 a0_1 a0_2 a0_3 l0_4 a0_5 a0_6 a0_7 a0_8 a0_9 a0_10 a0_11 a0_12 a0_13 a0_14 a0_15 a0_16 a0_17 a0_18 a0_19 a0_20 a0_21 a0_22 a0_23 a0_24 a0_25 a0_26 l0_27 a0_28 a0_29 a0_30 a0_31 = some r) :
    Calls Try.prog 14 #[.agg #[.int .i64 a0_0, .string a0_1, .int .i64 a0_2, .int .i64 a0_3, .slice A0_4 l0_4.length c0_4, .int .i64 a0_5, .int .i64 a0_6, .bool a0_7, .bool a0_8, .bool a0_9, .int .i64 a0_10, .string a0_11, .string a0_12, .string a0_13, .int .i64 a0_14, .bool a0_15, .bool a0_16, .int .i64 a0_17, .int .i64 a0_18, .string a0_19, .int .i64 a0_20, .int .i64 a0_21, .int .i64 a0_22, .int .i64 a0_23, .int .i64 a0_24, .bool a0_25, .int .u64 a0_26, .slice A0_27 l0_27.length c0_27, .int .i64 a0_28, .string a0_29, .int .i64 a0_30, .int .i64 a0_31]] w fun e w' => e = .returned (.int .u64 r) ∧ Below w.heap.size w w' := by
  unfold digest_Template.f at h
  split at h
  · rename_i hb
    obtain rfl := Option.some.inj h
    have hC := Go.Proofs.Ytalkodandfjkmaa.Dig.C_map (d := Kd.pair Kd.string Kd.string) (f := fun x : S51 => (x.f0, x.f1)) hr0_4
    have hl : (l0_4.map fun x : S51 => (x.f0, x.f1)).length = l0_4.length := List.length_map _
    have h1 := Go.Proofs.Ytalkodandfjkmaa.Dig.template_calls A0_4 c0_4 (l0_4.map fun x => (x.f0, x.f1)) a0_17 a0_18 a0_20 a0_21 a0_19 (.int .i64 a0_0) (.string a0_1) (.int .i64 a0_2) (.int .i64 a0_3) (.int .i64 a0_5) (.int .i64 a0_6) (.bool a0_7) (.bool a0_8) (.bool a0_9) (.int .i64 a0_10) (.string a0_11) (.string a0_12) (.string a0_13) (.int .i64 a0_14) (.bool a0_15) (.bool a0_16) (.int .i64 a0_22) (.int .i64 a0_23) (.int .i64 a0_24) (.bool a0_25) (.int .u64 a0_26) (.slice A0_27 l0_27.length c0_27) (.int .i64 a0_28) (.string a0_29) (.int .i64 a0_30) (.int .i64 a0_31) w (by rw [hl]; exact hC) hb.1 (by
      intro x hx
      obtain ⟨y, hy, rfl⟩ := List.mem_map.1 hx
      exact hb.2 y hy)
    rw [hl] at h1
    exact h1
  · exact absurd h (by simp)


end Go.Proofs.Ytalkodandfjkmaa.Print
