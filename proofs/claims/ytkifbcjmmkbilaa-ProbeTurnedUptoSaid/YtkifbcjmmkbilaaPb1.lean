/- A list of bools with marks behind its end, and that it was kept: what the kit's functions answer. -/
import Derived.Test.YtkifbcjmmkbilaaAg1
import Derived.Test.YtkifbcjmmkbilaaAvZ
set_option maxRecDepth 100000
set_option linter.unusedVariables false
set_option linter.unusedSimpArgs false
namespace Go.Proofs.Ytkifbcjmmkbilaa.Ag
open Go Go.RowKit Go.Proofs.Ytkifbcjmmkbilaa.Av Go.Proofs.Ytkifbcjmmkbilaa.AvT Go.Proofs.Ytkifbcjmmkbilaa.AvS

def markBool (k i : Int) : Bool := decide ((Int.tmod i (2 : Int)) = (Int.tmod k (2 : Int)))
theorem markBools_eq (k i : Int) : kit_markBools k i = some (markBool k i) := rfl
def marksBool : List Bool := (List.range 16).map fun (i : Nat) => markBool 90 ((i : Nat) : Int)
theorem marksBool_len : marksBool.length = 16 := rfl
theorem fitB1 {n : Nat} (h : n ≤ 140737488355000) : n * 1 ≤ 140737488355328 ∧ n ≤ maxLen := ⟨by omega, by unfold maxLen; omega⟩

theorem kit_FullBools_eq (l : List Bool) (h : l.length ≤ 140737488351232) : kit_FullBools l = some (l ++ marksBool) := by
  unfold kit_FullBools
  rw [if_pos (by omega), rnd_app (fun j => el l j) l.length 0 [] (fun j s' _ hj hs => by
    unfold kit_FullBools_0_s
    rw [if_pos (fitB1 (by simp at hs ⊢; omega))])]
  simp only [Res.opt, List.nil_append]
  rw [map_el, rnd_app (fun j => markBool 90 (j : Int)) 16 0 l (fun j s' _ hj hs => by
    unfold kit_FullBools_1_s
    rw [markBools_eq]
    simp only [optRes]
    rw [if_pos (fitB1 (by simp at hs ⊢; omega))])]
  simp only [Res.opt]
  rfl
theorem kit_FullBools_al (p : List Bool) (l : List Bool) (h : l.length ≤ 140737488351232) : FnO C_kit_FullBools Try.prog 21 [lstOf 1 eBool l p] 4 1 ((l ++ marksBool).map eBool) :=
  kit_FullBools_fn p l _ (kit_FullBools_eq l h)

theorem kit_KeptFullBools_eq (l : List Bool) (h : l.length ≤ 140737488351232) : kit_KeptFullBools (l ++ marksBool) l = some true := by
  have hl : (l ++ marksBool).length = l.length + 16 := by rw [List.length_append, marksBool_len]
  unfold kit_KeptFullBools
  rw [i64_small (by omega), hl]
  rw [show (decide (((l.length + 16 : Nat) : Int) = ((l.length : Nat) : Int) + (16 : Int))) = true by simp]
  simp only [cond_true]
  rw [if_pos (by omega), rnd_pass (l.length + 16) 0 (fun j _ hj => by
    unfold kit_KeptFullBools_0_s
    rw [markBools_eq]
    simp only [optRes]
    by_cases hjl : j < l.length
    · rw [lt_yes hjl]
      simp only [cond_true]
      rw [if_pos hjl, el_left hjl]
      simp
    · rw [lt_no (by omega), el_app (by omega), i64_small (by omega)]
      simp only [cond_false]
      have e : el marksBool (j - l.length) = markBool 90 (((j : Nat) : Int) - ((l.length : Nat) : Int)) := by
        unfold marksBool
        rw [el_mapR (by omega), show (((j - l.length : Nat)) : Int) = ((j : Nat) : Int) - ((l.length : Nat) : Int) by omega]
      rw [e]
      simp)]
  rfl
end Go.Proofs.Ytkifbcjmmkbilaa.Ag
