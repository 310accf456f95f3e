/- The plain statement of the law DigestOf, proved over numbers, texts and lists. -/
import Derived.Test.YtalkodandfjkmaaStDigestOf
namespace Go.Proofs.Ytalkodandfjkmaa.digestOf
open Go.RowKit Go.Proofs.YtalkodandfjkmaaW.PrintWords Go.Proofs.YtalkodandfjkmaaW.PrintLast Go.Proofs.Ytalkodandfjkmaa.Print

theorem wf_u8 {n : Int} (h : (Lit.int .u8 n).wf = true) : 0 ≤ n ∧ n < 256 := by
  simp [Lit.wf, IntKind.min, IntKind.max, IntKind.signed, IntKind.bits] at h
  omega
theorem pure : Pure := by
  intro x0 O0
  have hl : x0.length ≤ 140737488351232 := by have := O0.1; omega
  have h0 : ∀ x ∈ x0, 0 ≤ x ∧ x < 256 := fun x hx => wf_u8 (O0.2.2 x hx)
  by_cases hb : (x0.length : Int) > 16777216
  · exact ⟨0, if_pos hb⟩
  · have e1 : Ev (fun k => flotillakit_FullBytes.f k x0) (x0 ++ flotillakit_FullBytes.marks 16) := ⟨x0.length + 18, fun k hk => flotillakit_FullBytes.spec x0 (by omega) k hk⟩
    have e2 : Ev (fun k => flotillakit_KeptFullBytes.f k (x0 ++ flotillakit_FullBytes.marks 16) x0) true := ⟨x0.length + 18, fun k hk => flotillakit_KeptFullBytes.spec x0 (by omega) k hk⟩
    have e3 := flotillaref05_Of.ev x0 h0 (by omega)
    have : Ev (fun k => flotillalaw05_DigestOf.f k x0) true := by
      unfold flotillalaw05_DigestOf.f
      refine Ev.neg hb (Ev.bind e1 (Ev.val rfl (Ev.bind e3 (Ev.bind e2 (Ev.pos ?_ (Ev.now _))))))
      exact ⟨by rw [List.length_append, flotillakit_FullBytes.marks_length], by rw [List.take_left], rfl, rfl⟩
    exact this.rounds

end Go.Proofs.Ytalkodandfjkmaa.digestOf
