/- The plain statement of the law SumThree, proved over numbers, texts and lists. -/
import Derived.Test.YtckihppdjoianaaStSumThree
namespace Go.Proofs.Ytckihppdjoianaa.sumThree
open Go.RowKit Go.Proofs.YtckihppdjoianaaW.PrintWords Go.Proofs.YtckihppdjoianaaW.PrintLast Go.Proofs.Ytckihppdjoianaa.Print

theorem wf_u32 {n : Int} (h : (Lit.int .u32 n).wf = true) : 0 ≤ n ∧ n < 4294967296 := by
  simp [Lit.wf, IntKind.min, IntKind.max, IntKind.signed, IntKind.bits] at h
  omega
open Go.Proofs.Ytckihppdjoianaa.Crc in
theorem pure : Pure := by
  rintro ⟨a, b, c, n, m⟩ ⟨Oa, Ob, Oc, _, _⟩
  have Wa : 0 ≤ a ∧ a < 4294967296 := wf_u32 Oa
  have Wb : 0 ≤ b ∧ b < 4294967296 := wf_u32 Ob
  have Wc : 0 ≤ c ∧ c < 4294967296 := wf_u32 Oc
  clear Oa Ob Oc
  obtain ⟨a, rfl⟩ := Int.eq_ofNat_of_zero_le Wa.1
  obtain ⟨b, rfl⟩ := Int.eq_ofNat_of_zero_le Wb.1
  obtain ⟨c, rfl⟩ := Int.eq_ofNat_of_zero_le Wc.1
  have ha : a < 2 ^ 32 := by omega
  have hb : b < 2 ^ 32 := by omega
  have hc : c < 2 ^ 32 := by omega
  clear Wa Wb Wc
  refine ⟨40, ?_⟩
  unfold flotillalaw04_SumThree.f
  simp only []
  rw [flotillakit_Pick.spec n _ (by omega) (by omega), Option.bind_some, flotillakit_Pick.spec m _ (by omega) (by omega), Option.bind_some]
  have hp0 := Int.emod_nonneg n (show (1099511627776 : Int) ≠ 0 by omega)
  have hp1 := Int.emod_lt_of_pos n (show (0 : Int) < 1099511627776 by omega)
  obtain ⟨k, hk⟩ := Int.eq_ofNat_of_zero_le hp0
  have hq0 := Int.emod_nonneg m (show (1099511627776 : Int) ≠ 0 by omega)
  have hq1 := Int.emod_lt_of_pos m (show (0 : Int) < 1099511627776 by omega)
  obtain ⟨j, hj⟩ := Int.eq_ofNat_of_zero_le hq0
  rw [hk] at hp1 ⊢
  rw [hj] at hq1 ⊢
  clear hk hp0 hj hq0
  have hab : it (8 * k) a ^^^ b < 2 ^ 32 := Nat.xor_lt_two_pow (it_lt _ ha) hb
  have hbc : it (8 * j) b ^^^ c < 2 ^ 32 := Nat.xor_lt_two_pow (it_lt _ hb) hc
  rw [sum_Join.is a b k ha hb (by omega), Option.bind_some, sum_Join.is _ c j hab hc (by omega), Option.bind_some, sum_Join.is b c j hb hc (by omega), Option.bind_some,
    flotillakit_w.add k j (by omega), sum_Join.is a _ (k + j) ha hbc (by omega), Option.bind_some, flotillalaw04_works.is 40 (by omega), Option.bind_some, if_pos rfl]
  have e : it (8 * j) (it (8 * k) a ^^^ b) ^^^ c = it (8 * (k + j)) a ^^^ (it (8 * j) b ^^^ c) := by
    rw [it_xor, Nat.mul_add, it_add, Nat.xor_assoc]
  rw [e]
  simp only [Option.isNone_none, beq_self_eq_true]
  rfl

end Go.Proofs.Ytckihppdjoianaa.sumThree
