/- Quiet operations answer the same where own memory has grown behind. -/
import Derived.Test.YtkifbcjmmkbilaaAvK
set_option linter.unusedVariables false
set_option linter.unusedSimpArgs false
namespace Go.Proofs.Ytkifbcjmmkbilaa.Av
open Go Go.RowKit
variable {P : Program} {C : Ctx} {H : List Blk}

theorem get_more {i : Nat} {b : Blk} (E : List Blk) (h : H[i]? = some b) : (H ++ E)[i]? = some b := by
  rw [List.getElem?_append_left (List.getElem?_eq_some_iff.1 h).1]; exact h
theorem val1_more (E : List Blk) {x y : AV} (h : AV.val1 H x = some y) : AV.val1 (H ++ E) x = some y := by
  cases x with
  | own id ver =>
    simp only [AV.val1] at h ⊢
    split at h
    · rename_i e sz v es hH
      rw [get_more E hH]
      exact h
    · cases h
  | _ => first | (simpa only [AV.val1] using h) | (simp [AV.val1] at h)
theorem val1s_more (E : List Blk) : (xs : List AV) → ∀ {ys : List AV}, AV.val1s H xs = some ys → AV.val1s (H ++ E) xs = some ys
  | [], ys, h => by simpa only [AV.val1s] using h
  | x :: r, ys, h => by
    simp only [AV.val1s] at h ⊢
    cases hx : AV.val1 H x with
    | none => rw [hx] at h; cases h
    | some y =>
      cases hr : AV.val1s H r with
      | none => rw [hx, hr] at h; cases h
      | some rs => rw [hx, hr] at h; rw [val1_more E hx, val1s_more E r hr]; exact h
mutual
theorem val_more (E : List Blk) : (x : AV) → ∀ {y : AV}, AV.val H x = some y → AV.val (H ++ E) x = some y
  | .own id ver, y, h => by
    simp only [AV.val] at h ⊢
    split at h
    · rename_i e sz v es hH
      rw [get_more E hH]
      exact h
    · cases h
  | .agg cs, y, h => by
    simp only [AV.val] at h ⊢
    cases hp : AV.vals H cs with
    | none => rw [hp] at h; cases h
    | some ds => rw [hp] at h; rw [vals_more E cs hp]; exact h
  | .tup cs, y, h => by
    simp only [AV.val] at h ⊢
    cases hp : AV.vals H cs with
    | none => rw [hp] at h; cases h
    | some ds => rw [hp] at h; rw [vals_more E cs hp]; exact h
  | .fn f cs, y, h => by
    simp only [AV.val] at h ⊢
    cases hp : AV.vals H cs with
    | none => rw [hp] at h; cases h
    | some ds => rw [hp] at h; rw [vals_more E cs hp]; exact h
  | .ifc t x, y, h => by
    simp only [AV.val] at h ⊢
    cases hp : AV.val H x with
    | none => rw [hp] at h; cases h
    | some ds => rw [hp] at h; rw [val_more E x hp]; exact h
  | .gpt _ _ _ _, y, h => by simp [AV.val] at h
  | .ptr k off, y, h => by
    simp only [AV.val] at h ⊢
    split at h
    · rename_i cs hH
      rw [get_more E hH]
      simp only at h ⊢
      cases hp : AV.val1s H (cs.drop off) with
      | none => rw [hp] at h; cases h
      | some ds => rw [hp] at h; rw [val1s_more E _ hp]; exact h
    · cases h
  | .cut id ver n, y, h => by
    simp only [AV.val] at h ⊢
    split at h
    · rename_i e sz v es hH
      rw [get_more E hH]
      exact h
    · cases h
  | .any, y, h => by simpa only [AV.val] using h
  | .v x, y, h => by simpa only [AV.val] using h
  | .lst _ _ _ _, y, h => by simpa only [AV.val] using h
  | .z _ _, y, h => by simpa only [AV.val] using h
  | .ept _, y, h => by simpa only [AV.val] using h
theorem vals_more (E : List Blk) : (xs : List AV) → ∀ {ys : List AV}, AV.vals H xs = some ys → AV.vals (H ++ E) xs = some ys
  | [], ys, h => by simpa only [AV.vals] using h
  | x :: r, ys, h => by
    simp only [AV.vals] at h ⊢
    cases hx : AV.val H x with
    | none => rw [hx] at h; cases h
    | some y =>
      cases hr : AV.vals H r with
      | none => rw [hx, hr] at h; cases h
      | some rs => rw [hx, hr] at h; rw [val_more E x hx, vals_more E r hr]; exact h
end
theorem loadA_more (E : List Blk) {t : Nat} {x y : AV} (h : loadA C t x H = some y) : loadA C t x (H ++ E) = some y := by
  unfold loadA at h ⊢
  split at h <;> (try split at h) <;> first
    | cases h; done
    | (rename_i hH; simp only [get_more E hH]; exact h)
    | exact h
    | (rename_i hc; rw [if_pos hc]; exact h)
theorem lenA_more (E : List Blk) {x : AV} {n : Nat} (h : lenA x H = some n) : lenA x (H ++ E) = some n := by
  unfold lenA at h ⊢
  split at h <;> (try split at h) <;> first
    | cases h; done
    | (rename_i hH; simp only [get_more E hH]; exact h)
    | exact h
theorem idxA_more (E : List Blk) {sz : Nat} {x y : AV} {i : Int} (h : idxA sz x i H = some y) : idxA sz x i (H ++ E) = some y := by
  unfold idxA at h ⊢
  cases x with
  | own id ver =>
    simp only at h ⊢
    split at h
    · rename_i hH; rw [get_more E hH]; exact h
    · cases h
  | cut id ver n =>
    simp only at h ⊢
    split at h
    · rename_i hH; rw [get_more E hH]; exact h
    · cases h
  | _ => first | exact h | cases h
theorem zeroA_more (E : List Blk) {d : TD} {x y : AV} (h : zeroA d x H = some y) : zeroA d x (H ++ E) = some y := by
  unfold zeroA at h ⊢
  cases d with
  | sl e sz b =>
    cases x with
    | own id ver =>
      simp only at h ⊢
      split at h
      · rename_i hH; rw [get_more E hH]; exact h
      · cases h
    | _ => first | exact h | cases h
  | _ => cases h
theorem cutO_more (E : List Blk) {d : TD} {x y : AV} {hi : Option AV} (h : cutO d x hi H = some y) : cutO d x hi (H ++ E) = some y := by
  unfold cutO at h ⊢
  split at h
  · split at h
    · rename_i hH; simp only [get_more E hH]; exact h
    · cases h
  · cases h
theorem cutm_more (E : List Blk) {d : TD} {x r : AV} {lo hi mx : Option AV} {b : Bool} (h : (match cutM b d x hi H with | some y => some y | none => sliceA d x lo hi mx) = some r) :
    (match cutM b d x hi (H ++ E) with | some y => some y | none => sliceA d x lo hi mx) = some r := by
  cases b with
  | false => exact h
  | true =>
    simp only [cutM] at h ⊢
    cases hc : cutO d x hi H with
    | some y => rw [hc] at h; rw [cutO_more E hc]; exact h
    | none =>
      rw [hc] at h
      simp only at h
      have : cutO d x hi (H ++ E) = none := by
        cases hx : cutO d x hi (H ++ E) with
        | none => rfl
        | some y =>
          unfold cutO at hx
          split at hx
          · unfold sliceA at h
            cases h
          · cases hx
      rw [this]
      exact h
theorem fieldA_more (E : List Blk) {x y : AV} {o : Nat} (h : fieldA x o H = some y) : fieldA x o (H ++ E) = some y := by
  unfold fieldA at h ⊢
  cases x with
  | ptr a off =>
    simp only at h ⊢
    split at h
    · rename_i hH; rw [get_more E hH]; exact h
    · cases h
  | gpt id ver i off =>
    simp only at h ⊢
    split at h
    · rename_i hH; rw [get_more E hH]; exact h
    · cases h
  | _ => first | exact h | cases h
theorem callMA_more (E : List Blk) {f : AV} {args : List AV} {r : AV × List Blk} (h : callMA C f args H = some r) : callMA C f args (H ++ E) = some r := by
  unfold callMA at h ⊢
  split at h
  · split at h
    · split at h
      · rename_i hv
        rw [vals_more E _ hv]
        exact h
      · cases h
    · cases h
  · cases h
theorem evOpQ_more (E : List Blk) {tmps : List AV} {o : Oper} {x : AV} (h : evOpQ C P tmps H o = some x) : evOpQ C P tmps (H ++ E) o = some x := by
  cases ho : o.op with
  | load t y => simp only [evOpQ, ho] at h ⊢; exact loadA_more E h
  | nilCheck y =>
    simp only [evOpQ, ho] at h ⊢
    cases hy : evA tmps y with
    | ptr a off =>
      rw [hy] at h
      simp only at h ⊢
      split at h
      · rename_i hH; rw [get_more E hH]; exact h
      · cases h
    | ept cs => rw [hy] at h; exact h
    | _ => rw [hy] at h; cases h
  | fieldAddr t y f =>
    simp only [evOpQ, ho] at h ⊢
    split at h
    · split at h
      · exact fieldA_more E h
      · cases h
    · cases h
  | indexAddr t y i =>
    simp only [evOpQ, ho] at h ⊢
    split at h
    · exact idxA_more E h
    · cases h
  | slice t y lo hi mx =>
    simp only [evOpQ, ho] at h ⊢
    split at h
    · exact zeroA_more E h
    · exact cutm_more E h
  | call c =>
    cases hc : c.callee with
    | value f =>
      simp only [evOpQ, ho, hc] at h ⊢
      cases hm : callMA C (evA tmps f) (c.args.toList.map (evA tmps)) H with
      | none => rw [hm] at h; cases h
      | some r => rw [hm] at h; rw [callMA_more E hm]; exact h
    | invoke r m => simp only [evOpQ, ho, hc] at h; cases h
    | builtin b =>
      have key : b ≠ .len → evOpQ C P tmps (H ++ E) o = evOpQ C P tmps H o := fun hb => by
        unfold evOpQ
        simp only [ho, hc]
        cases b <;> first | (exact absurd rfl hb) | rfl
      by_cases hb : b = .len
      · subst hb
        simp only [evOpQ, ho, hc] at h ⊢
        split at h
        · rename_i x t ha ht
          cases htd : C.td t with
          | sl e sz by' =>
            rw [htd] at h
            simp only at h ⊢
            cases hl : lenA (evA tmps x) H with
            | none => simp only [hl] at h; cases h
            | some n => simp only [hl] at h; simp only [lenA_more E hl]; exact h
          | one z =>
            rw [htd] at h
            cases hx : evA tmps x with
            | v u => rw [hx] at h; cases z <;> first | (cases h; done) | (cases u <;> first | (cases h; done) | exact h)
            | _ => rw [hx] at h; cases z <;> cases h
          | _ => rw [htd] at h; cases h
        · cases h
      · rw [key hb]; exact h
  | binOp b t x y t' =>
    have key : evOpQ C P tmps (H ++ E) o = evOpQ C P tmps H o := by
      unfold evOpQ
      rw [ho]
      cases b <;> rfl
    rw [key]; exact h
  | makeFunc fn first caps =>
    have key : evOpQ C P tmps (H ++ E) o = evOpQ C P tmps H o := by
      unfold evOpQ
      rw [ho]
      cases fn <;> rfl
    rw [key]; exact h
  | _ => simp only [evOpQ, ho] at h ⊢; exact h
end Go.Proofs.Ytkifbcjmmkbilaa.Av
