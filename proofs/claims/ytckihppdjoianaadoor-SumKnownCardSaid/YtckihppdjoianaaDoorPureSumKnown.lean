/- The plain statement of the law SumKnown, proved over numbers, texts and lists. -/
import Derived.Test.YtckihppdjoianaaDoorStSumKnown
import Derived.Test.YtckihppdjoianaaDoorPureSumCounted
import Derived.Test.YtckihppdjoianaaDoorPureSumRows
import Derived.Test.YtckihppdjoianaaDoorPureSumSeen
import Derived.Test.YtckihppdjoianaaDoorPureSumJoined
namespace Go.Proofs.YtckihppdjoianaaDoor.sumKnown
open Go.RowKit Go.Proofs.YtckihppdjoianaaDoorW.PrintWords Go.Proofs.YtckihppdjoianaaDoorW.PrintLast Go.Proofs.YtckihppdjoianaaDoor.Print

theorem ok_u8 {n : Int} (h0 : 0 ≤ n) (h1 : n < 256) : (Lit.int .u8 n).wf = true := by
  simp [Lit.wf, IntKind.min, IntKind.max, IntKind.signed, IntKind.bits]
  omega
theorem ok_u32 {n : Int} (h0 : 0 ≤ n) (h1 : n < 4294967296) : (Lit.int .u32 n).wf = true := by
  simp [Lit.wf, IntKind.min, IntKind.max, IntKind.signed, IntKind.bits]
  omega
theorem ok_i64 {n : Int} (h0 : -9223372036854775808 ≤ n) (h1 : n < 9223372036854775808) : (Lit.int .i64 n).wf = true := by
  simp [Lit.wf, IntKind.min, IntKind.max, IntKind.signed, IntKind.bits]
  omega
theorem ok_row {xs : List Int} (hl : xs.length ≤ 1000) (h : ∀ x ∈ xs, 0 ≤ x ∧ x < 256) : xs.length * 1 ≤ 140737488351232 ∧ xs.length ≤ 9223372036854775807 ∧ ∀ x ∈ xs, (Lit.int .u8 x).wf = true :=
  ⟨by omega, by omega, fun x hx => ok_u8 (h x hx).1 (h x hx).2⟩
theorem counted (a : Int) (xs : List Int) (h0 : 0 ≤ a) (h1 : a < 4294967296) (hl : xs.length ≤ 1000) (h : ∀ x ∈ xs, 0 ≤ x ∧ x < 256) : Ev (fun k => flotillalaw04_SumCounted.f k a xs) true := by
  obtain ⟨k, hk⟩ := Go.Proofs.YtckihppdjoianaaDoor.sumCounted.pure a xs (ok_u32 h0 h1) (ok_row hl h)
  exact Ev.of (fun k => flotillalaw04_SumCounted.mono _ _ k) hk
theorem rows (xs : List Int) (a : Int) (hl : xs.length ≤ 1000) (h : ∀ x ∈ xs, 0 ≤ x ∧ x < 256) (h0 : 0 ≤ a) (h1 : a < 1000) : Ev (fun k => flotillalaw04_SumRows.f k xs a) true := by
  obtain ⟨k, hk⟩ := Go.Proofs.YtckihppdjoianaaDoor.sumRows.pure xs a (ok_row hl h) (ok_i64 (by omega) (by omega))
  exact Ev.of (fun k => flotillalaw04_SumRows.mono _ _ k) hk
theorem seen (xs : List Int) (a m : Int) (hl : xs.length ≤ 1000) (h : ∀ x ∈ xs, 0 ≤ x ∧ x < 256) (h0 : 0 ≤ a) (h1 : a < 1000) (hm : 0 ≤ m) (hm2 : m < 4294967296) : Ev (fun k => flotillalaw04_SumSeen.f k xs a m) true := by
  obtain ⟨k, hk⟩ := Go.Proofs.YtckihppdjoianaaDoor.sumSeen.pure xs a m (ok_row hl h) (ok_i64 (by omega) (by omega)) (ok_u32 hm hm2)
  exact Ev.of (fun k => flotillalaw04_SumSeen.mono _ _ _ k) hk
theorem joined (a b n : Int) (h0 : 0 ≤ a) (h1 : a < 4294967296) (h2 : 0 ≤ b) (h3 : b < 4294967296) (h4 : -9223372036854775808 ≤ n) (h5 : n < 9223372036854775808) : Ev (fun k => flotillalaw04_SumJoined.f k a b n) true := by
  obtain ⟨k, hk⟩ := Go.Proofs.YtckihppdjoianaaDoor.sumJoined.pure a b n (ok_u32 h0 h1) (ok_u32 h2 h3) (ok_i64 h4 h5)
  exact Ev.of (fun k => flotillalaw04_SumJoined.mono _ _ _ k) hk
theorem shl_i64 (i : Nat) (h : i < 63) : shl .i64 1 (i : Int) = ((2 ^ i : Nat) : Int) := by
  unfold shl
  rw [Int.toNat_natCast, Nat.min_eq_left (by simp [IntKind.bits]; omega), Int.one_mul]
  have hp : (2 : Nat) ^ i < 9223372036854775808 := Nat.pow_lt_pow_right (n := 63) (by decide) h
  have e : ((2 : Int) ^ i) = ((2 ^ i : Nat) : Int) := by simp only [Int.natCast_pow]; rfl
  rw [e]
  generalize (2 : Nat) ^ i = p at hp ⊢
  exact IntWalk.i64_in _ (by omega)
theorem l2 : ∀ d i : Nat, i + d = 63 → Ev (fun k => flotillalaw04_SumKnown.l2 k (i : Int)) true := by
  intro d
  induction d with
  | zero =>
    intro i hi
    refine Ev.step (fun _ => by simp only [flotillalaw04_SumKnown.l2]; rfl) ?_
    refine Ev.neg (by omega) ?_
    refine Ev.bind (joined 5 7 _ (by omega) (by omega) (by omega) (by omega) (by omega) (by omega)) (Ev.pos rfl ?_)
    exact Ev.bind (joined 5 7 _ (by omega) (by omega) (by omega) (by omega) (by omega) (by omega)) (Ev.now _)
  | succ d ih =>
    intro i hi
    refine Ev.step (fun _ => by simp only [flotillalaw04_SumKnown.l2]; rfl) ?_
    refine Ev.pos (by omega) (Ev.pos (by omega) ?_)
    rw [shl_i64 i (by omega)]
    have hp : (2 : Nat) ^ i < 9223372036854775808 := Nat.pow_lt_pow_right (n := 63) (by decide) (by omega)
    have hp1 : 0 < (2 : Nat) ^ i := Nat.two_pow_pos i
    generalize (2 : Nat) ^ i = p at hp hp1 ⊢
    rw [wu_id ((p : Int) - 1) (by omega) (by omega)]
    refine Ev.bind (joined _ _ _ (by omega) (by omega) (by omega) (by omega) (by omega) (by omega)) (Ev.pos rfl ?_)
    refine Ev.bind (joined _ _ _ (by omega) (by omega) (by omega) (by omega) (by omega) (by omega)) (Ev.pos rfl ?_)
    rw [wu_one i (by omega)]
    exact ih (i + 1) (by omega)
abbrev Z : List Int := List.replicate 32 0
abbrev O : List Int := List.replicate 32 255
theorem l1 : ∀ d i : Nat, i + d = 256 → Ev (fun k => flotillalaw04_SumKnown.l1 k Z O (i : Int)) true := by
  intro d
  induction d with
  | zero =>
    intro i hi
    refine Ev.step (fun _ => by simp only [flotillalaw04_SumKnown.l1]; rfl) ?_
    refine Ev.neg (by omega) ?_
    exact l2 63 0 rfl
  | succ d ih =>
    intro i hi
    refine Ev.step (fun _ => by simp only [flotillalaw04_SumKnown.l1]; rfl) ?_
    refine Ev.pos (by omega) ?_
    have hz : ∀ x ∈ Z, 0 ≤ x ∧ x < 256 := fun x hx => by rw [(List.mem_replicate.1 hx).2]; omega
    have ho : ∀ x ∈ O, 0 ≤ x ∧ x < 256 := fun x hx => by rw [(List.mem_replicate.1 hx).2]; omega
    refine Ev.bind (counted _ _ (by omega) (by omega) (by simp) ?_) (Ev.pos rfl ?_)
    · intro x hx
      simp only [List.mem_cons, List.not_mem_nil, or_false] at hx
      rcases hx with rfl | rfl <;> omega
    refine Ev.bind (rows _ _ (by simp) ?_ (by omega) (by omega)) (Ev.pos rfl ?_)
    · intro x hx
      simp only [List.mem_cons, List.not_mem_nil, or_false] at hx
      rcases hx with rfl | rfl | rfl | rfl <;> omega
    refine Ev.bind (seen O _ _ (by simp) ho (by omega) (by omega) (by omega) (by omega)) (Ev.pos rfl ?_)
    refine Ev.bind (seen Z _ _ (by simp) hz (by omega) (by omega) (by omega) (by omega)) (Ev.pos rfl ?_)
    rw [wu_one i (by omega)]
    exact ih (i + 1) (by omega)
theorem by1 : Ev (fun k => flotillakit_Bytes.f k (⟨#[49, 50, 51, 52]⟩ : ByteArray)) [49, 50, 51, 52] := Ev.of (fun k => flotillakit_Bytes.mono _ k) (k := 20) (by decide +kernel)
theorem by2 : Ev (fun k => flotillakit_Bytes.f k (⟨#[53, 54, 55, 56, 57]⟩ : ByteArray)) [53, 54, 55, 56, 57] := Ev.of (fun k => flotillakit_Bytes.mono _ k) (k := 20) (by decide +kernel)
theorem by3 : Ev (fun k => flotillakit_Bytes.f k (⟨#[97]⟩ : ByteArray)) [97] := Ev.of (fun k => flotillakit_Bytes.mono _ k) (k := 20) (by decide +kernel)
/-- A sum by reckoning. -/
theorem so {xs : List Int} {v : Int} (h : sum_Of.f 50 xs = some v) : Ev (fun k => sum_Of.f k xs) v := Ev.of (fun k => sum_Of.mono _ k) h
theorem l0 : ∀ d i : Nat, i + d = 32 → Ev (fun k => flotillalaw04_SumKnown.l0 k (List.replicate i 0) (List.replicate i 255) (i : Int)) true := by
  intro d
  induction d with
  | zero =>
    intro i hi
    obtain rfl : i = 32 := by omega
    refine Ev.step (fun _ => by simp only [flotillalaw04_SumKnown.l0]; rfl) ?_
    refine Ev.neg (by omega) ?_
    refine Ev.bind by1 (Ev.bind (so (v := 4131058926) (by decide +kernel)) ?_)
    refine Ev.bind by2 (Ev.bind (so (v := 2209703384) (by decide +kernel)) ?_)
    refine Ev.val (a := (3808858755, none)) (by decide +kernel) ?_
    refine Ev.val (a := (0, some 1)) (by decide +kernel) ?_
    refine Ev.bind (⟨40, fun k hk => flotillalaw04_works.is k hk⟩ : Ev (fun k => flotillalaw04_works.f k) true) (Ev.pos rfl (Ev.pos rfl (Ev.pos rfl ?_)))
    refine Ev.val (a := true) rfl (Ev.pos rfl ?_)
    refine Ev.bind (so (v := 1383945041) (by decide +kernel)) (Ev.pos rfl ?_)
    refine Ev.bind (so (v := 2324772522) (by decide +kernel)) (Ev.pos rfl ?_)
    refine Ev.bind (so (v := 1655221059) (by decide +kernel)) (Ev.pos rfl ?_)
    refine Ev.bind by3 (Ev.bind (so (v := 3251651376) (by decide +kernel)) ?_)
    refine Ev.step (fun _ => by simp only [flotillalaw04_SumKnown.j1]; rfl) ?_
    exact Ev.neg (by decide) (l1 256 0 rfl)
  | succ d ih =>
    intro i hi
    refine Ev.step (fun _ => by simp only [flotillalaw04_SumKnown.l0]; rfl) ?_
    refine Ev.pos (by omega) (Ev.pos (by rw [List.length_replicate]; omega) (Ev.pos (by rw [List.length_replicate]; omega) ?_))
    rw [wu_one i (by omega), ← List.replicate_succ', ← List.replicate_succ']
    exact ih (i + 1) (by omega)
theorem pure : Pure := by
  obtain ⟨k, hk⟩ := (l0 32 0 rfl).rounds
  exact ⟨k, hk⟩

end Go.Proofs.YtckihppdjoianaaDoor.sumKnown
