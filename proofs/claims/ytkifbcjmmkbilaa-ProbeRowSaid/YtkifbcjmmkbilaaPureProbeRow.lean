/- The plain statement of the law ProbeRow, proved over numbers, texts and lists. -/
import Derived.Test.YtkifbcjmmkbilaaStProbeRow
namespace Go.Proofs.Ytkifbcjmmkbilaa.probeRow
open Go.RowKit Go.Proofs.YtkifbcjmmkbilaaW.PrintWords Go.Proofs.YtkifbcjmmkbilaaW.PrintLast Go.Proofs.Ytkifbcjmmkbilaa.Print

theorem l0_run (R : Nat) (hR : R ≤ 8) (F : Int) (a b : Int) (c : Bool) (m : Nat) (x9 : List Bool) : ∀ (j : Nat) (x8 : List Bool), j ≤ R → x8.length + j ≤ 140737488355000 →
    flotillalaw22_ProbeRow.l0 (m + 1 + j) x8 x9 ((R : Int) - j) a b c R F = flotillalaw22_ProbeRow.l1 m (x8 ++ List.replicate j true) x9 0 a b c R F := by
  intro j
  induction j with
  | zero =>
    intro x8 _ _
    simp only [flotillalaw22_ProbeRow.l0]
    rw [if_neg (by omega)]
    simp
  | succ j ih =>
    intro x8 h1 h2
    show flotillalaw22_ProbeRow.l0 ((m + 1 + j) + 1) x8 x9 _ a b c R F = _
    simp only [flotillalaw22_ProbeRow.l0]
    rw [if_pos (by omega), if_pos (by omega)]
    have e : wrap64 ((R : Int) - ((j + 1 : Nat) : Int) + 1) = (R : Int) - j := by rw [IntWalk.wrap64_in _ ⟨by omega, by omega⟩]; omega
    rw [e, ih (x8 ++ [true]) (by omega) (by simp; omega), List.append_assoc]
    rfl
theorem l1_run (R : Int) (F : Nat) (hF : F ≤ 8) (a b : Int) (c : Bool) (m : Nat) (x8 : List Bool) : ∀ (j : Nat) (x9 : List Bool), j ≤ F → x9.length + j ≤ 140737488355000 →
    flotillalaw22_ProbeRow.l1 (m + 1 + j) x8 x9 ((F : Int) - j) a b c R F = flotillalaw22_ProbeRow.l1 (m + 1) x8 (x9 ++ List.replicate j false) F a b c R F := by
  intro j
  induction j with
  | zero =>
    intro x9 _ _
    simp
  | succ j ih =>
    intro x9 h1 h2
    have e0 : flotillalaw22_ProbeRow.l1 ((m + 1 + j) + 1) x8 x9 ((F : Int) - ((j + 1 : Nat) : Int)) a b c R F = flotillalaw22_ProbeRow.l1 (m + 1 + j) x8 (x9 ++ [false]) (wrap64 ((F : Int) - ((j + 1 : Nat) : Int) + 1)) a b c R F := by
      rw [flotillalaw22_ProbeRow.l1]
      rw [if_pos (by omega), if_pos (by omega)]
    show flotillalaw22_ProbeRow.l1 ((m + 1 + j) + 1) x8 x9 _ a b c R F = _
    have e : wrap64 ((F : Int) - ((j + 1 : Nat) : Int) + 1) = (F : Int) - j := by rw [IntWalk.wrap64_in _ ⟨by omega, by omega⟩]; omega
    rw [e0, e, ih (x9 ++ [false]) (by omega) (by simp; omega), List.append_assoc]
    rfl
theorem pure : Pure := by
  intro x0 x1 x2 O0 O1 O2
  have hl : x1.length ≤ 140737488351232 := by have := O1.1; omega
  refine ⟨x1.length + 40, ?_⟩
  unfold flotillalaw22_ProbeRow.f
  rw [flotillalaw22_right.spec]
  simp only [Option.bind_some]
  rw [flotillaref0_CopyBools.spec x1 (by omega) _ (by omega)]
  simp only [Option.bind_some]
  have hm := Prb.may_pick x2.f0 x2.f1
  obtain ⟨R, hR, hR1, hR8⟩ : ∃ R : Nat, 1 + x2.f0 % 8 = R ∧ 1 ≤ R ∧ R ≤ 8 := ⟨(1 + x2.f0 % 8).toNat, by omega, by omega, by omega⟩
  obtain ⟨F, hF, hF1, hF8⟩ : ∃ F : Nat, 1 + x2.f1 % 8 = F ∧ 1 ≤ F ∧ F ≤ 8 := ⟨(1 + x2.f1 % 8).toNat, by omega, by omega, by omega⟩
  rw [hR, hF] at hm ⊢
  have h0 := l0_run R hR8 (F : Int) x0.f0 x0.f1 x0.f2 (x1.length + 39 - R) x1 R x1 (Nat.le_refl _) (by omega)
  rw [Int.sub_self, show x1.length + 39 - R + 1 + R = x1.length + 40 by omega] at h0
  rw [h0]
  have h1 := l1_run (R : Int) F hF8 x0.f0 x0.f1 x0.f2 (x1.length + 38 - R - F) (x1 ++ List.replicate R true) F x1 (Nat.le_refl _) (by omega)
  rw [Int.sub_self, show x1.length + 38 - R - F + 1 + F = x1.length + 39 - R by omega] at h1
  rw [h1, flotillalaw22_ProbeRow.l1, if_neg (by omega), probe_All.yes hm, probe_All.yes hm, flotillalaw22_works.is]
  simp only [Option.bind_some]
  obtain ⟨a1, a2, a3⟩ := Prb.goods_all (x0.f0, x0.f1, x0.f2) x1 R F hR1
  obtain ⟨b1, b2, b3⟩ := Prb.bads_all (x0.f0, x0.f1, x0.f2) x1 R F hF1
  simp [a1, a2, a3, b1, b2, b3]

end Go.Proofs.Ytkifbcjmmkbilaa.probeRow
