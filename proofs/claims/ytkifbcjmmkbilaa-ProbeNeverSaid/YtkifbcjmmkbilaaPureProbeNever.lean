/- The plain statement of the law ProbeNever, proved over numbers, texts and lists. -/
import Derived.Test.YtkifbcjmmkbilaaStProbeNever
namespace Go.Proofs.Ytkifbcjmmkbilaa.probeNever
open Go.RowKit Go.Proofs.YtkifbcjmmkbilaaW.PrintWords Go.Proofs.YtkifbcjmmkbilaaW.PrintLast Go.Proofs.Ytkifbcjmmkbilaa.Print

theorem pure : Pure := by
  intro x0 x1 O0 O1
  have hl : x0.length ≤ 140737488351232 := by have := O0.1; omega
  refine ⟨x0.length + 5, ?_⟩
  unfold flotillalaw22_ProbeNever.f
  rw [flotillalaw22_right.spec]
  simp only [Option.bind_some]
  have hm := Prb.may_pick x1.f0 x1.f1
  have hR : 1 ≤ 1 + x1.f0 % 8 := by omega
  have hF : 1 ≤ 1 + x1.f1 % 8 := by omega
  generalize 1 + x1.f0 % 8 = R at hm hR ⊢
  generalize 1 + x1.f1 % 8 = F at hm hF ⊢
  rw [probe_All.yes hm, probe_All.yes hm, flotillalaw22_works.is]
  simp only [Option.bind_some, Option.isNone_none, if_true]
  rw [flotillalaw22_ProbeNever.j0, if_neg (by simp), flotillalaw22_row.is x0 true (by omega) _ (by omega), flotillalaw22_row.is x0 false (by omega) _ (by omega)]
  simp only [Option.bind_some]
  have hg := Prb.never_good R F hR x0 0 0 (0, 0, false) (Int.le_refl _) rfl rfl
  have hb := Prb.never_bad R F hF x0 0 0 (0, 0, true) (Int.le_refl _) rfl rfl
  change (flotillalaw22_row.spec x0 true).2 < R → _ at hg
  change (flotillalaw22_row.spec x0 false).2 < F → _ at hb
  by_cases c1 : (flotillalaw22_row.spec x0 true).2 ≥ R
  · rw [if_pos c1]
    by_cases c2 : (flotillalaw22_row.spec x0 false).2 ≥ F
    · rw [if_pos c2]
    · rw [if_neg c2, hb (by omega)]
  · rw [if_neg c1, hg (by omega), if_neg (by simp)]
    by_cases c2 : (flotillalaw22_row.spec x0 false).2 ≥ F
    · rw [if_pos c2]
    · rw [if_neg c2, hb (by omega)]

end Go.Proofs.Ytkifbcjmmkbilaa.probeNever
