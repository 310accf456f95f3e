/- A list of labels with marks behind its end, and that it was kept: what the kit's functions answer. -/
import Derived.Test.YtdagejfcnjndpaaAg1
import Derived.Test.YtdagejfcnjndpaaAvZ
set_option maxRecDepth 100000
set_option linter.unusedVariables false
set_option linter.unusedSimpArgs false
namespace Go.Proofs.Ytdagejfcnjndpaa.Ag
open Go Go.RowKit Go.Proofs.Ytdagejfcnjndpaa.Av Go.Proofs.Ytdagejfcnjndpaa.AvT Go.Proofs.Ytdagejfcnjndpaa.AvS

def markLabel (k i : Int) : Label := ⟨bytesOf [(35 : Int), (IntKind.u8.wrap k), (IntKind.u8.wrap (Int.fdiv k (2 ^ 8))), (IntKind.u8.wrap i), (IntKind.u8.wrap (Int.fdiv i (2 ^ 8)))], ⟨#[]⟩⟩
theorem markLabels_eq (k i : Int) : kit_markLabels k i = some (markLabel k i) := rfl
def marksLabel : List Label := (List.range 16).map fun (i : Nat) => markLabel 90 ((i : Nat) : Int)
theorem marksLabel_len : marksLabel.length = 16 := rfl

theorem kit_FullLabels_eq (l : List Label) (h : l.length ≤ 4398046511000) : kit_FullLabels l = some (l ++ marksLabel) := by
  unfold kit_FullLabels
  rw [if_pos (by omega), rnd_app (fun j => el l j) l.length 0 [] (fun j s' _ hj hs => by
    unfold kit_FullLabels_0_s
    rw [if_pos (fitL (by simp at hs ⊢; omega) (by decide))])]
  simp only [Res.opt, List.nil_append]
  rw [map_el, rnd_app (fun j => markLabel 90 (j : Int)) 16 0 l (fun j s' _ hj hs => by
    unfold kit_FullLabels_1_s
    rw [markLabels_eq]
    simp only [optRes]
    rw [if_pos (fitL (by simp at hs ⊢; omega) (by decide))])]
  simp only [Res.opt]
  rfl
theorem kit_FullLabels_al (p : List Label) (l : List Label) (h : l.length ≤ 4398046511000) : FnO C_kit_FullLabels Try.prog 14 [lstOf 2 eLabel l p] 31 2 ((l ++ marksLabel).map eLabel) :=
  kit_FullLabels_fn p l _ (kit_FullLabels_eq l h)

theorem kit_KeptFullLabels_eq (l : List Label) (h : l.length ≤ 4398046511000) : kit_KeptFullLabels (l ++ marksLabel) l = some true := by
  have hl : (l ++ marksLabel).length = l.length + 16 := by rw [List.length_append, marksLabel_len]
  unfold kit_KeptFullLabels
  rw [i64_small (by omega), hl]
  rw [show (decide (((l.length + 16 : Nat) : Int) = ((l.length : Nat) : Int) + (16 : Int))) = true by simp]
  simp only [cond_true]
  rw [if_pos (by omega), rnd_pass (l.length + 16) 0 (fun j _ hj => by
    unfold kit_KeptFullLabels_0_s
    rw [markLabels_eq]
    simp only [optRes]
    by_cases hjl : j < l.length
    · rw [lt_yes hjl]
      simp only [cond_true]
      rw [if_pos hjl, el_left hjl]
      simp
    · rw [lt_no (by omega), el_app (by omega), i64_small (by omega)]
      simp only [cond_false]
      have e : el marksLabel (j - l.length) = markLabel 90 (((j : Nat) : Int) - ((l.length : Nat) : Int)) := by
        unfold marksLabel
        rw [el_mapR (by omega), show (((j - l.length : Nat)) : Int) = ((j : Nat) : Int) - ((l.length : Nat) : Int) by omega]
      rw [e]
      simp)]
  rfl
end Go.Proofs.Ytdagejfcnjndpaa.Ag
