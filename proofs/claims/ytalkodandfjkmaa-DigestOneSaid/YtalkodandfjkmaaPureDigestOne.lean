/- The plain statement of the law DigestOne, proved over numbers, texts and lists. -/
import Derived.Test.YtalkodandfjkmaaStDigestOne
namespace Go.Proofs.Ytalkodandfjkmaa.digestOne
open Go.RowKit Go.Proofs.YtalkodandfjkmaaW.PrintWords Go.Proofs.YtalkodandfjkmaaW.PrintLast Go.Proofs.Ytalkodandfjkmaa.Print

theorem wf_u8 {n : Int} (h : (Lit.int .u8 n).wf = true) : 0 ≤ n ∧ n < 256 := by
  simp [Lit.wf, IntKind.min, IntKind.max, IntKind.signed, IntKind.bits] at h
  omega
theorem beq_iff {a b c d : Int} (h : a = b ↔ c = d) : (a == b) = (c == d) := by
  rw [Bool.eq_iff_iff, beq_iff_eq, beq_iff_eq]; exact h
theorem j_true (k : Nat) (x0 : List Int) (x1 x2 : Int) (x3 : List Int) : flotillalaw05_DigestOne.j0 (k + 1) x0 x1 x2 x3 true = some true := by
  simp only [flotillalaw05_DigestOne.j0, if_true]
theorem j_false (x0 : List Int) (x1 x2 : Int) (x3 : List Int) (hne : x0.length ≠ 0) (hl : x0.length ≤ 65536) (hm : x3.length ≤ 65536) (hw : ∀ x ∈ x0, (Lit.int .u8 x).wf = true) (h2 : (Lit.int .u8 x2).wf = true) :
    flotillalaw05_DigestOne.j0 (x0.length + 2) x0 x1 x2 x3 false = some true := by
  simp only [flotillalaw05_DigestOne.j0]
  rw [if_neg (by simp), flotillaref0_CopyBytes.spec x0 (by omega) _ (by omega)]
  simp only [Option.bind_some]
  rw [flotillakit_Pick.spec x1 x0.length (by omega) (by omega)]
  simp only [Option.bind_some]
  have hp0 := Int.emod_nonneg x1 (show (x0.length : Int) ≠ 0 by omega)
  have hp1 := Int.emod_lt_of_pos x1 (show 0 < (x0.length : Int) by omega)
  generalize x1 % (x0.length : Int) = p at hp0 hp1
  obtain ⟨i, rfl⟩ := Int.eq_ofNat_of_zero_le hp0
  have hi : i < x0.length := by omega
  rw [if_pos hp0, if_pos hp1]
  simp only [Option.bind_some, digest_Of.f, Int.toNat_natCast]
  rw [if_pos hp1]
  have hr : rd x0 (i : Int) = x0[i] := by simp [rd, List.getD_eq_getElem?_getD, List.getElem?_eq_getElem hi]
  have hb := wf_u8 (hw _ (List.getElem_mem hi))
  have hb2 := wf_u8 h2
  have hs : Dig.U64 14695981039346656037 := by unfold Dig.U64; omega
  have u1 : Dig.U64 x2 := by unfold Dig.U64; omega
  have u2 : Dig.U64 (x0[i]) := by unfold Dig.U64; omega
  have e1 := beq_iff (Dig.fnv_set (h := 14695981039346656037) x0 i hi x2 u1 u2)
  have e2 := beq_iff (Dig.fnv_set_more hs x0 i hi x2 u1 u2 x3)
  rw [hr, e1]
  rw [if_neg (by simp), if_pos (by omega), if_pos (by rw [List.length_set]; omega), e2]
  simp
theorem pure : Pure := by
  intro x0 x1 x2 x3 O0 h1 h2 O3
  refine ⟨x0.length + 2, ?_⟩
  unfold flotillalaw05_DigestOne.f flotillalaw05_works.f
  simp only [Option.bind_some]
  rw [if_pos trivial]
  by_cases c1 : (x0.length : Int) = 0
  · rw [if_pos c1]; exact j_true _ _ _ _ _
  · rw [if_neg c1]
    by_cases c2 : (x0.length : Int) > 65536
    · rw [if_pos c2]; exact j_true _ _ _ _ _
    · rw [if_neg c2]
      by_cases c3 : (x3.length : Int) > 65536
      · rw [decide_eq_true c3]; exact j_true _ _ _ _ _
      · rw [decide_eq_false c3]
        exact j_false x0 x1 x2 x3 (by omega) (by omega) (by omega) O0.2.2 h2

end Go.Proofs.Ytalkodandfjkmaa.digestOne
