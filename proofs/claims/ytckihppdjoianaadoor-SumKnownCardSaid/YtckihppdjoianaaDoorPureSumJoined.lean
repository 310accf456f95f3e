/- The plain statement of the law SumJoined, proved over numbers, texts and lists. -/
import Derived.Test.YtckihppdjoianaaDoorStSumJoined
namespace Go.Proofs.YtckihppdjoianaaDoor.sumJoined
open Go.RowKit Go.Proofs.YtckihppdjoianaaDoorW.PrintWords Go.Proofs.YtckihppdjoianaaDoorW.PrintLast Go.Proofs.YtckihppdjoianaaDoor.Print

theorem wf_u32 {n : Int} (h : (Lit.int .u32 n).wf = true) : 0 ≤ n ∧ n < 4294967296 := by
  simp [Lit.wf, IntKind.min, IntKind.max, IntKind.signed, IntKind.bits] at h
  omega
theorem wf_i64 {n : Int} (h : (Lit.int .i64 n).wf = true) : n < 9223372036854775808 := by
  simp [Lit.wf, IntKind.min, IntKind.max, IntKind.signed, IntKind.bits] at h
  omega
open Go.Proofs.YtckihppdjoianaaDoor.Crc in
theorem pure : Pure := by
  intro a b n Oa Ob On
  have Wa := wf_u32 Oa
  have Wb := wf_u32 Ob
  have Wn := wf_i64 On
  obtain ⟨a, rfl⟩ := Int.eq_ofNat_of_zero_le Wa.1
  obtain ⟨b, rfl⟩ := Int.eq_ofNat_of_zero_le Wb.1
  have ha : a < 2 ^ 32 := by omega
  have hb : b < 2 ^ 32 := by omega
  by_cases h : n < 0
  · refine ⟨0, ?_⟩
    unfold flotillalaw04_SumJoined.f
    rw [sum_Join.no a b n ha hb h, Option.bind_some, flotillaref04_Join.no _ _ _ _ h, Option.bind_some, if_pos ⟨rfl, by decide⟩]
  · obtain ⟨n, rfl⟩ := Int.eq_ofNat_of_zero_le (show 0 ≤ n by omega)
    obtain ⟨k, hk⟩ := (flotillaref04_Join.ev a b n ha hb (by omega)).rounds
    refine ⟨k, ?_⟩
    unfold flotillalaw04_SumJoined.f
    rw [sum_Join.is a b n ha hb (by omega), Option.bind_some, hk, Option.bind_some, if_pos ⟨rfl, rfl⟩]

end Go.Proofs.YtckihppdjoianaaDoor.sumJoined
