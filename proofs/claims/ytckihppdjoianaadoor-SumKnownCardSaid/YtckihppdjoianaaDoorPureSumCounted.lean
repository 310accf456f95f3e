/- The plain statement of the law SumCounted, proved over numbers, texts and lists. -/
import Derived.Test.YtckihppdjoianaaDoorStSumCounted
namespace Go.Proofs.YtckihppdjoianaaDoor.sumCounted
open Go.RowKit Go.Proofs.YtckihppdjoianaaDoorW.PrintWords Go.Proofs.YtckihppdjoianaaDoorW.PrintLast Go.Proofs.YtckihppdjoianaaDoor.Print

theorem wf_u8 {n : Int} (h : (Lit.int .u8 n).wf = true) : 0 ≤ n ∧ n < 256 := by
  simp [Lit.wf, IntKind.min, IntKind.max, IntKind.signed, IntKind.bits] at h
  omega
theorem wf_u32 {n : Int} (h : (Lit.int .u32 n).wf = true) : 0 ≤ n ∧ n < 4294967296 := by
  simp [Lit.wf, IntKind.min, IntKind.max, IntKind.signed, IntKind.bits] at h
  omega
theorem pure : Pure := by
  intro x0 x1 O0 O1
  have hl : x1.length ≤ 140737488351232 := by have := O1.1; omega
  have h1 : ∀ x ∈ x1, 0 ≤ x ∧ x < 256 := fun x hx => wf_u8 (O1.2.2 x hx)
  have h0 := wf_u32 O0
  obtain ⟨s, rfl⟩ := Int.eq_ofNat_of_zero_le h0.1
  obtain ⟨K, hK⟩ : ∃ K, 10 * x1.length + 40 ≤ K := ⟨_, Nat.le_refl _⟩
  refine ⟨K, ?_⟩
  unfold flotillalaw04_SumCounted.f
  rw [flotillakit_FullBytes.spec x1 (by omega) K (by omega), Option.bind_some, sum_Of.spec K x1 h1 (by omega) (by omega), Option.bind_some, sum_More.spec K s (by omega) x1 h1 (by omega) (by omega), Option.bind_some,
    flotillaref04_Of.spec K x1 h1 (by omega) (by omega), Option.bind_some, flotillaref04_More.spec K s (by omega) x1 h1 (by omega) (by omega), Option.bind_some, flotillakit_KeptFullBytes.spec x1 (by omega) K (by omega), Option.bind_some]
  rw [if_pos ⟨by rw [List.length_append, flotillakit_FullBytes.marks_length], by rw [List.take_left], rfl, rfl, rfl⟩]

end Go.Proofs.YtckihppdjoianaaDoor.sumCounted
