/- The plain statement of the law DigestBack, proved over numbers, texts and lists. -/
import Derived.Test.YtalkodandfjkmaaStDigestBack
namespace Go.Proofs.Ytalkodandfjkmaa.digestBack
open Go.RowKit Go.Proofs.YtalkodandfjkmaaW.PrintWords Go.Proofs.YtalkodandfjkmaaW.PrintLast Go.Proofs.Ytalkodandfjkmaa.Print

theorem wf_u64 {n : Int} (h : (Lit.int .u64 n).wf = true) : Dig.U64 n := by
  simp [Lit.wf, IntKind.min, IntKind.max, IntKind.signed, IntKind.bits] at h
  unfold Dig.U64
  omega
theorem pure : Pure := by
  intro x0 x1 O0 O1
  refine ⟨20, ?_⟩
  unfold flotillalaw05_DigestBack.f flotillalaw05_works.f digest_Text.f
  simp only [Option.bind_some]
  rw [if_pos trivial, digest_Parse.text x0 (wf_u64 O0) 20 (by omega)]
  simp only [Option.bind_some, Option.isNone_none, if_true]
  have hz : (((Dig.textB x0).size : Int) != 13) = false := rfl
  rw [hz]
  simp only [flotillalaw05_DigestBack.j0]
  rw [if_neg (by simp)]
  cases hp : digest_Parse.f 19 x1 with
  | none => rw [digest_Parse.spec _ 19 (by omega)] at hp; simp at hp
  | some r =>
    obtain ⟨y, e⟩ := r
    simp only [Option.bind_some]
    cases e with
    | none =>
      simp only [Option.isNone_none, if_true]
      unfold digest_Text.f
      simp only [Option.bind_some]
      rw [digest_Parse.back x1 y 19 (by omega) hp]
      simp
    | some c =>
      rw [digest_Parse.spec _ 19 (by omega)] at hp
      have hc : y = 0 ∧ c = 4 := by
        split at hp
        · unfold digest_Parse.told at hp
          split at hp <;> simp at hp
          exact ⟨hp.1.symm, hp.2.symm⟩
        · simp at hp
          exact ⟨hp.1.symm, hp.2.symm⟩
      obtain ⟨rfl, rfl⟩ := hc
      rw [if_neg (by simp), if_pos rfl]
      rfl

end Go.Proofs.Ytalkodandfjkmaa.digestBack
