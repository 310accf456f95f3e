/- The plain statement of the law SumSeen, proved over numbers, texts and lists. -/
import Derived.Test.YtckihppdjoianaaDoorStSumSeen
namespace Go.Proofs.YtckihppdjoianaaDoor.sumSeen
open Go.RowKit Go.Proofs.YtckihppdjoianaaDoorW.PrintWords Go.Proofs.YtckihppdjoianaaDoorW.PrintLast Go.Proofs.YtckihppdjoianaaDoor.Print

theorem wf_u8 {n : Int} (h : (Lit.int .u8 n).wf = true) : 0 ≤ n ∧ n < 256 := by
  simp [Lit.wf, IntKind.min, IntKind.max, IntKind.signed, IntKind.bits] at h
  omega
theorem shl_one (t : Nat) (h : t < 8) : shl .u8 1 (t : Int) = ((2 ^ t : Nat) : Int) := by
  have : t = 0 ∨ t = 1 ∨ t = 2 ∨ t = 3 ∨ t = 4 ∨ t = 5 ∨ t = 6 ∨ t = 7 := by omega
  rcases this with rfl | rfl | rfl | rfl | rfl | rfl | rfl | rfl <;> decide +kernel
theorem bits_xor8 {a b : Nat} (ha : a < 2 ^ 8) (hb : b < 2 ^ 8) : Go.bits .xor .u8 (a : Int) (b : Int) = ((a ^^^ b : Nat) : Int) := by
  show IntKind.u8.wrap ((BitVec.ofInt 8 a ^^^ BitVec.ofInt 8 b).toNat : Int) = _
  rw [IntKind.wrap_u8, BitVec.toNat_xor, BitVec.toNat_ofInt, BitVec.toNat_ofInt]
  have h := Nat.xor_lt_two_pow ha hb
  rw [show (((a : Int) % ((2 ^ 8 : Nat) : Int)).toNat) = a by omega, show (((b : Int) % ((2 ^ 8 : Nat) : Int)).toNat) = b by omega]
  omega
theorem rd_nat (c : List Int) (j : Nat) (hj : j < c.length) : rd c (j : Int) = c[j] := by simp [rd, List.getElem?_eq_getElem hj]
theorem w_add (a b : Nat) (h : a + b < 9223372036854775808) : wrap64 ((a : Int) + (b : Int)) = ((a + b : Nat) : Int) := by rw [IntWalk.wrap64_in _ ⟨by omega, by omega⟩]; omega
theorem w_one (a : Nat) (h : a + 1 < 9223372036854775808) : wrap64 ((a : Int) + 1) = ((a + 1 : Nat) : Int) := w_add a 1 h
theorem w_nat (a : Nat) (h : a < 9223372036854775808) : wrap64 (a : Int) = (a : Int) := IntWalk.wrap64_in _ ⟨by omega, by omega⟩
theorem tdiv8 (a : Nat) : Int.tdiv (a : Int) 8 = ((a / 8 : Nat) : Int) := by rw [Int.tdiv_eq_ediv_of_nonneg (by omega)]; omega
theorem tmod8 (a : Nat) : Int.tmod (a : Int) 8 = ((a % 8 : Nat) : Int) := by rw [Int.tmod_eq_emod_of_nonneg (by omega)]; omega
/-- What the rounds keep. -/
def Inv (x0 : List Int) (kk i : Nat) (c : List Int) (tur : Bool) : Prop :=
  c.length = x0.length ∧ (∀ x ∈ c, 0 ≤ x ∧ x < 256) ∧ ∃ p, p < 2 ^ i ∧ tur = decide (p ≠ 0) ∧ Crc.num (sum_More.nats c) = Crc.num (sum_More.nats x0) ^^^ (2 ^ kk * p)
theorem the_end (x0 : List Int) (h0 : ∀ x ∈ x0, 0 ≤ x ∧ x < 256) (hl : x0.length < 140737488355328) (x2 : Int) (kk i K : Nat) (hi : i ≤ 32) (hkk : kk ≤ 8 * x0.length) (c : List Int) (tur : Bool) (hI : Inv x0 kk i c tur) (hK : x0.length + 10 ≤ K) :
    flotillalaw04_SumSeen.j2 (K + 1) x0 x2 (8 * (x0.length : Int)) kk c tur i false = some true := by
  obtain ⟨h1, h2, p, hp, rfl, h3⟩ := hI
  simp only [flotillalaw04_SumSeen.j2]
  rw [if_neg (by simp), sum_Of.spec K x0 h0 hl hK, sum_Of.spec K c h2 (by omega) (by omega)]
  simp only [Option.bind_some]
  have hs := Crc.seen (Crc.ones ^^^ 0) (sum_More.nats x0) (sum_More.nats c) (sum_More.nats_lt h0) (sum_More.nats_lt h2) (by simp [Crc.nats, h1]) kk p (by simpa [Crc.nats] using hkk)
    (Nat.lt_of_lt_of_le hp (Nat.pow_le_pow_right (by decide) hi)) h3
  congr 1
  by_cases hp0 : p = 0
  · have e := hs.mpr hp0
    unfold Crc.more
    rw [e]
    simp [hp0]
  · have e : Crc.more 0 (sum_More.nats x0) ≠ Crc.more 0 (sum_More.nats c) := fun e => hp0 (hs.mp (Crc.not_inj.mp e))
    have e2 : ((Crc.more 0 (sum_More.nats x0) : Nat) : Int) ≠ ((Crc.more 0 (sum_More.nats c) : Nat) : Int) := by omega
    simp [hp0, e2]
theorem turn (x0 : List Int) (kk i : Nat) (c : List Int) (tur : Bool) (hI : Inv x0 kk i c tur) (hq : kk + i < 8 * x0.length) :
    Inv x0 kk (i + 1) (c.set ((kk + i) / 8) (Go.bits .xor .u8 (rd c (((kk + i) / 8 : Nat) : Int)) (shl .u8 1 (((kk + i) % 8 : Nat) : Int)))) true := by
  obtain ⟨h1, h2, p, hp, rfl, h3⟩ := hI
  have hj : (kk + i) / 8 < c.length := by omega
  have hb := h2 _ (List.getElem_mem hj)
  have hr : rd c (((kk + i) / 8 : Nat) : Int) = ((c[(kk + i) / 8].toNat : Nat) : Int) := by
    rw [rd_nat c _ hj]
    omega
  have ht : (kk + i) % 8 < 8 := Nat.mod_lt _ (by decide)
  have h28 : 2 ^ ((kk + i) % 8) < 2 ^ 8 := Nat.pow_lt_pow_right (by decide) ht
  have hxl := Nat.xor_lt_two_pow (n := 8) (show c[(kk + i) / 8].toNat < 2 ^ 8 by omega) h28
  rw [hr, shl_one _ ht, bits_xor8 (by omega) h28]
  refine ⟨by simp [h1], ?_, p ^^^ 2 ^ i, ?_, ?_, ?_⟩
  · intro x hx
    rcases List.mem_or_eq_of_mem_set hx with hx | rfl
    · exact h2 x hx
    · omega
  · exact Nat.xor_lt_two_pow (Nat.lt_trans hp (Nat.pow_lt_pow_right (by decide) (Nat.lt_succ_self i))) (Nat.pow_lt_pow_right (by decide) (Nat.lt_succ_self i))
  · have hne : p ^^^ 2 ^ i ≠ 0 := by
      intro e
      have e2 := congrArg (fun z => z.testBit i) e
      simp only [Nat.testBit_xor, Nat.testBit_lt_two_pow hp, Nat.testBit_two_pow_self, Nat.zero_testBit] at e2
      simp at e2
    simp [hne]
  · have hn : sum_More.nats (c.set ((kk + i) / 8) (((c[(kk + i) / 8].toNat ^^^ 2 ^ ((kk + i) % 8) : Nat) : Int))) = (sum_More.nats c).set ((kk + i) / 8) ((sum_More.nats c)[(kk + i) / 8]'(by simpa [Crc.nats] using hj) ^^^ 2 ^ ((kk + i) % 8)) := by
      simp [Crc.nats, List.map_set]
    rw [hn, Crc.num_set _ _ _ _ (sum_More.nats_lt h2) ht, h3, Nat.xor_assoc]
    congr 1
    rw [show 8 * ((kk + i) / 8) + (kk + i) % 8 = kk + i by omega, Nat.pow_add]
    have := Nat.shiftLeft_xor_distrib (a := p) (b := 2 ^ i) (i := kk)
    simpa [Nat.shiftLeft_eq, Nat.mul_comm] using this.symm
theorem stay {x0 : List Int} {kk i : Nat} {c : List Int} {tur : Bool} (hI : Inv x0 kk i c tur) : Inv x0 kk (i + 1) c tur := by
  obtain ⟨h1, h2, p, hp, h4, h3⟩ := hI
  exact ⟨h1, h2, p, Nat.lt_trans hp (Nat.pow_lt_pow_right (by decide) (Nat.lt_succ_self i)), h4, h3⟩
theorem rounds (x0 : List Int) (h0 : ∀ x ∈ x0, 0 ≤ x ∧ x < 256) (hl : x0.length ≤ 140737488351232) (x2 : Int) (kk : Nat) (hkk : kk ≤ 8 * x0.length) : ∀ (d i K : Nat) (c : List Int) (tur : Bool), i + d = 32 → Inv x0 kk i c tur → x0.length + 12 + 2 * d ≤ K →
    flotillalaw04_SumSeen.l0 K x0 x2 (8 * (x0.length : Int)) kk c tur i = some true := by
  intro d
  induction d with
  | zero =>
    intro i K c tur hi hI hK
    obtain ⟨K, rfl⟩ : ∃ m, K = m + 1 + 1 := ⟨K - 2, by omega⟩
    rw [flotillalaw04_SumSeen.l0, if_neg (by omega)]
    exact the_end x0 h0 (by omega) x2 kk i K (by omega) hkk c tur hI (by omega)
  | succ d ih =>
    intro i K c tur hi hI hK
    obtain ⟨K, rfl⟩ : ∃ m, K = m + 1 + 1 := ⟨K - 2, by omega⟩
    have hlen := hI.1
    rw [flotillalaw04_SumSeen.l0, if_pos (by omega), w_add kk i (by omega)]
    by_cases hq : kk + i < 8 * x0.length
    · rw [show decide (((kk + i : Nat) : Int) < 8 * (x0.length : Int)) = true from decide_eq_true (by omega), flotillalaw04_SumSeen.j2, if_pos rfl, if_pos (by omega), w_add kk i (by omega), w_one i (by omega), tdiv8, tmod8, w_nat _ (by omega)]
      split
      · rw [if_pos (by omega), if_pos (by omega), if_pos (by omega)]
        exact ih (i + 1) K _ true (by omega) (turn x0 kk i c tur hI hq) (by omega)
      · exact ih (i + 1) K c tur (by omega) (stay hI) (by omega)
    · rw [show decide (((kk + i : Nat) : Int) < 8 * (x0.length : Int)) = false from decide_eq_false (by omega)]
      exact the_end x0 h0 (by omega) x2 kk i K (by omega) hkk c tur hI (by omega)
theorem pure : Pure := by
  intro x0 x1 x2 O0 O1 O2
  have hl : x0.length ≤ 140737488351232 := by have := O0.1; omega
  have h0 : ∀ x ∈ x0, 0 ≤ x ∧ x < 256 := fun x hx => wf_u8 (O0.2.2 x hx)
  obtain ⟨K, hK⟩ : ∃ K, x0.length + 200 ≤ K := ⟨_, Nat.le_refl _⟩
  refine ⟨K + 1, ?_⟩
  unfold flotillalaw04_SumSeen.f
  rw [flotillalaw04_works.is _ (by omega), Option.bind_some, if_pos rfl]
  rw [IntWalk.wrap64_in (8 * (x0.length : Int)) ⟨by omega, by omega⟩, flotillalaw04_SumSeen.j0]
  by_cases hn : x0.length = 0
  · rw [if_pos (by simp [hn]), flotillalaw04_works.is _ (by omega)]
    rfl
  · rw [if_neg (by simp [hn]), flotillakit_Pick.spec x1 _ (by omega) (by omega), Option.bind_some]
    rw [flotillaref0_CopyBytes.spec x0 (by omega) _ (by omega), Option.bind_some]
    have hp0 := Int.emod_nonneg x1 (show 8 * (x0.length : Int) ≠ 0 by omega)
    have hp1 := Int.emod_lt_of_pos x1 (show 0 < 8 * (x0.length : Int) by omega)
    generalize x1 % (8 * (x0.length : Int)) = q at hp0 hp1
    obtain ⟨kk, rfl⟩ := Int.eq_ofNat_of_zero_le hp0
    exact rounds x0 h0 hl x2 kk (by omega) 32 0 _ x0 false rfl ⟨rfl, h0, 0, by decide, by simp, by simp⟩ (by omega)

end Go.Proofs.YtckihppdjoianaaDoor.sumSeen
