/- The plain statement of the law SumNone, proved over numbers, texts and lists. -/
import Derived.Test.YtckihppdjoianaaStSumNone
namespace Go.Proofs.Ytckihppdjoianaa.sumNone
open Go.RowKit Go.Proofs.YtckihppdjoianaaW.PrintWords Go.Proofs.YtckihppdjoianaaW.PrintLast Go.Proofs.Ytckihppdjoianaa.Print

theorem wf_u32 {n : Int} (h : (Lit.int .u32 n).wf = true) : 0 ≤ n ∧ n < 4294967296 := by
  simp [Lit.wf, IntKind.min, IntKind.max, IntKind.signed, IntKind.bits] at h
  omega
open Go.Proofs.Ytckihppdjoianaa.Crc in
theorem pure : Pure := by
  intro x0 x1 O0 O1
  obtain ⟨s, rfl⟩ := Int.eq_ofNat_of_zero_le (wf_u32 O0).1
  have hs : s < 2 ^ 32 := by have := (wf_u32 O0).2; omega
  have h32 : (0 : Nat) < 2 ^ 32 := by decide
  refine ⟨40, ?_⟩
  unfold flotillalaw04_SumNone.f
  rw [flotillakit_Pick.spec x1 _ (by omega) (by omega), Option.bind_some]
  have hp0 := Int.emod_nonneg x1 (show (1125899906842624 : Int) ≠ 0 by omega)
  have hp1 := Int.emod_lt_of_pos x1 (show (0 : Int) < 1125899906842624 by omega)
  obtain ⟨t, ht⟩ := Int.eq_ofNat_of_zero_le hp0
  rw [ht] at hp1 ⊢
  clear ht hp0
  have j1 := sum_Join.is s 0 0 hs h32 (by omega)
  have j2 := sum_Join.is 0 s t h32 hs (by omega)
  rw [Nat.mul_zero, Nat.xor_zero] at j1
  rw [it_zero, Nat.zero_xor] at j2
  have hm := sum_More.spec 40 s hs [] (fun x hx => absurd hx (by simp)) (by simp) (by simp)
  have e : sum_More.nats [] = [] := rfl
  rw [e, more_nil] at hm
  have e0 : it 0 s = s := rfl
  rw [e0] at j1
  rw [show ((0 : Nat) : Int) = 0 from rfl] at j1 j2
  rw [j1, Option.bind_some, j2, Option.bind_some, flotillalaw04_works.is 40 (by omega), Option.bind_some, if_pos rfl, hm, Option.bind_some, if_pos rfl]
  simp

end Go.Proofs.Ytckihppdjoianaa.sumNone
