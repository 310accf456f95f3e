/- The plain statement of the law SumRows, proved over numbers, texts and lists. -/
import Derived.Test.YtckihppdjoianaaDoorStSumRows
namespace Go.Proofs.YtckihppdjoianaaDoor.sumRows
open Go.RowKit Go.Proofs.YtckihppdjoianaaDoorW.PrintWords Go.Proofs.YtckihppdjoianaaDoorW.PrintLast Go.Proofs.YtckihppdjoianaaDoor.Print

theorem wf_u8 {n : Int} (h : (Lit.int .u8 n).wf = true) : 0 ≤ n ∧ n < 256 := by
  simp [Lit.wf, IntKind.min, IntKind.max, IntKind.signed, IntKind.bits] at h
  omega
open Go.Proofs.YtckihppdjoianaaDoor.Crc in
theorem pure : Pure := by
  intro x0 x1 O0 O1
  have hl : x0.length ≤ 140737488351232 := by have := O0.1; omega
  have h0 : ∀ x ∈ x0, 0 ≤ x ∧ x < 256 := fun x hx => wf_u8 (O0.2.2 x hx)
  obtain ⟨K, hK⟩ : ∃ K, 10 * x0.length + 40 ≤ K := ⟨_, Nat.le_refl _⟩
  refine ⟨K, ?_⟩
  unfold flotillalaw04_SumRows.f
  have hw1 : wrap64 ((x0.length : Int) + 1) = ((x0.length + 1 : Nat) : Int) := w_one _ (by omega)
  rw [hw1, flotillakit_Pick.spec x1 _ (by omega) (by omega), Option.bind_some]
  have hp0 := Int.emod_nonneg x1 (show ((x0.length + 1 : Nat) : Int) ≠ 0 by omega)
  have hp1 := Int.emod_lt_of_pos x1 (show 0 < ((x0.length + 1 : Nat) : Int) by omega)
  obtain ⟨t, ht⟩ := Int.eq_ofNat_of_zero_le hp0
  rw [ht] at hp1 ⊢
  clear ht hp0 hw1
  have htl : t ≤ x0.length := by omega
  rw [if_pos (by omega), Int.toNat_natCast]
  have hta : ∀ x ∈ x0.take t, 0 ≤ x ∧ x < 256 := fun x hx => h0 x (List.mem_of_mem_take hx)
  have hda : ∀ x ∈ x0.drop t, 0 ≤ x ∧ x < 256 := fun x hx => h0 x (List.mem_of_mem_drop hx)
  have hn1 := sum_More.nats_lt hta
  have hn2 := sum_More.nats_lt hda
  have e2 : (nats (x0.drop t)).length = x0.length - t := by simp [nats]
  have hap : nats (x0.take t) ++ nats (x0.drop t) = nats x0 := by
    unfold nats
    rw [← List.map_append, List.take_append_drop]
  have h32 : (0 : Nat) < 2 ^ 32 := by decide
  have hj := join_more 0 (nats (x0.take t)) (nats (x0.drop t)) hn2
  rw [e2] at hj
  have hm := sum_More.spec K (more 0 (nats (x0.take t))) (more_lt h32 hn1) (x0.drop t) hda (by rw [List.length_drop]; omega) (by rw [List.length_drop]; omega)
  have hz := sum_Join.is _ _ (x0.length - t) (more_lt h32 hn1) (more_lt h32 hn2) (by omega)
  rw [hj, more_append, hap] at hz
  rw [more_append, hap] at hm
  rw [sum_Of.spec K _ hta (by rw [List.length_take]; omega) (by rw [List.length_take]; omega), Option.bind_some,
    sum_Of.spec K _ hda (by rw [List.length_drop]; omega) (by rw [List.length_drop]; omega), Option.bind_some,
    flotillakit_w.sub _ _ htl (by omega), hz, Option.bind_some, flotillalaw04_works.is K (by omega), Option.bind_some, sum_Of.spec K _ h0 (by omega) (by omega), Option.bind_some, hm, Option.bind_some, if_pos ⟨rfl, rfl, rfl⟩]

end Go.Proofs.YtckihppdjoianaaDoor.sumRows
