/- ProbeTold in plain Lean. -/
import Derived.Test.YtkifbcjmmkbilaaAg3
import Derived.Test.YtkifbcjmmkbilaaAvB
set_option maxRecDepth 100000
set_option linter.unusedVariables false
set_option linter.unusedSimpArgs false
namespace Go.Proofs.Ytkifbcjmmkbilaa.Ag
open Go Go.RowKit Go.Proofs.Ytkifbcjmmkbilaa.Av Go.Proofs.Ytkifbcjmmkbilaa.AvT Go.Proofs.Ytkifbcjmmkbilaa.AvS

theorem pick_in (m n : Int) (h : 1 ≤ n ∧ n ≤ 9223372036854775807) : ∃ r, kit_Pick m n = some r ∧ 0 ≤ r ∧ r < n := by
  unfold kit_Pick
  rw [decide_eq_false (by omega), cond_false, if_pos (by omega)]
  have h1 : Int.tmod m n < n := Int.tmod_lt_of_pos m (by omega)
  have h2 : -n < Int.tmod m n := Int.lt_tmod_of_pos m (by omega)
  by_cases hx : Int.tmod m n < 0
  · rw [decide_eq_true hx, cond_true]
    exact ⟨_, rfl, by rw [i64_small (by omega)]; omega⟩
  · rw [decide_eq_false hx, cond_false]
    exact ⟨_, rfl, by omega, by omega⟩
theorem right_in (x : law22_Rates) : ∃ a b, law22_right x = some ⟨a, b⟩ ∧ Prb.mayB a b = true := by
  obtain ⟨a, e1, h1⟩ := pick_in x.Rise 8 (by omega)
  obtain ⟨b, e2, h2⟩ := pick_in x.Fall 8 (by omega)
  unfold law22_right
  rw [e1, Option.bind_some, e2, Option.bind_some, i64_small (by omega), i64_small (by omega)]
  refine ⟨_, _, rfl, ?_⟩
  simp only [Prb.mayB, Bool.and_eq_true, decide_eq_true_eq]
  omega
theorem rnd_snoc {σ ρ : Type} {step : Nat → σ → Res σ ρ} : ∀ (k i : Nat) (s s1 : σ), rndN step k i s = .go s1 → rndN step (k + 1) i s = step (i + k) s1
  | 0, i, s, s1, h => by
    cases h
    rw [rndN]
    cases step i s <;> rfl
  | k + 1, i, s, s1, h => by
    rw [rndN] at h ⊢
    cases hq : step i s with
    | go s2 =>
      rw [hq] at h
      simp only at h ⊢
      rw [rnd_snoc k (i + 1) s2 s1 h, show i + 1 + k = i + (k + 1) by omega]
    | out x => rw [hq] at h; cases h
    | die => rw [hq] at h; cases h
theorem turn_is (p : Prb.Pr) (l : List Bool) (a b : Int) (k : Nat) (hk : k < l.length) (ht : Tn.tnB p l a b k = true) : (Prb.st p l a b (k + 1)).2.2 = el l k ∧ ((Prb.st p l a b (k + 1)).2.2 == (Prb.st p l a b k).2.2) = false := by
  have hs := Prb.st_succ p l a b k hk
  have he : YtkifbcjmmkbilaaW.PrintWords.rdOf false l (k : Int) = el l k := by simp [YtkifbcjmmkbilaaW.PrintWords.rdOf, el]
  rw [he] at hs
  unfold Tn.tnB at ht
  rw [hs] at ht ⊢
  unfold Prb.nextP at ht ⊢
  cases hq : (Prb.st p l a b k).2.2 <;> cases ho : el l k <;> simp_all
theorem told_loop (r : law22_Rates) (p : Probe) (l : List Bool) (hm : Prb.mayB r.Rise r.Fall = true) (hl : l.length ≤ 140737488351232) : ∀ k, k ≤ l.length →
    ∃ z : Int, z < ((k : Nat) : Int) ∧ rndN (law22_ProbeTold_0_s r p l l) (Tn.tnL (p.Good, p.Bad, p.Ready) l r.Rise r.Fall k).length 0 (p.Ready, ((-1) : Int)) = .go ((Prb.st (p.Good, p.Bad, p.Ready) l r.Rise r.Fall k).2.2, z)
  | 0, _ => ⟨-1, by omega, rfl⟩
  | k + 1, hk => by
    obtain ⟨z, hz, e⟩ := told_loop r p l hm hl k (by omega)
    by_cases ht : Tn.tnB (p.Good, p.Bad, p.Ready) l r.Rise r.Fall k = true
    · obtain ⟨g1, g2, g3⟩ := Tn.tnL_get (p.Good, p.Bad, p.Ready) l r.Rise r.Fall k l.length (by omega) ht
      obtain ⟨t1, t2⟩ := turn_is (p.Good, p.Bad, p.Ready) l r.Rise r.Fall k (by omega) ht
      refine ⟨((k : Nat) : Int), by omega, ?_⟩
      rw [g3, rnd_snoc _ _ _ _ e, Nat.zero_add]
      have hx : el (Tn.turnsL r.Rise r.Fall p l) (Tn.tnL (p.Good, p.Bad, p.Ready) l r.Rise r.Fall k).length = (k, (Prb.st (p.Good, p.Bad, p.Ready) l r.Rise r.Fall (k + 1)).2.2) := by
        unfold Tn.turnsL
        rw [if_pos hm]
        simp only [el, List.getD_eq_getElem?_getD, g1, Option.getD_some]
      unfold law22_ProbeTold_0_s
      rw [hx]
      simp only
      rw [t2, cond_false, decide_eq_false (by omega), cond_false, decide_eq_false (by omega), cond_false, if_pos (by omega), Int.toNat_natCast, t1, beq_self_eq_true, cond_true]
    · have ht0 : Tn.tnB (p.Good, p.Bad, p.Ready) l r.Rise r.Fall k = false := by simpa using ht
      refine ⟨z, by omega, ?_⟩
      rw [Tn.tnL_skip _ _ _ _ _ ht0, e]
      unfold Tn.tnB at ht0
      have : (Prb.st (p.Good, p.Bad, p.Ready) l r.Rise r.Fall (k + 1)).2.2 = (Prb.st (p.Good, p.Bad, p.Ready) l r.Rise r.Fall k).2.2 := by simpa using ht0
      rw [this]
theorem works_eq : law22_works = some true := by kernel_rfl
theorem allQ_yes (p : Probe) (l : List Bool) (a b : Int) (hm : Prb.mayB a b = true) : allQ p l a b = (⟨(Prb.allP (p.Good, p.Bad, p.Ready) l a b).1, (Prb.allP (p.Good, p.Bad, p.Ready) l a b).2.1, (Prb.allP (p.Good, p.Bad, p.Ready) l a b).2.2⟩, .ok) := by
  unfold allQ
  rw [hm]
theorem pure_ProbeTold (p : Probe) (l : List Bool) (cut : Int) (O0 : OkProbe p) (O1 : l.length * 1 ≤ 140737488351232 ∧ l.length ≤ 9223372036854775807 ∧ ∀ x ∈ l, (fun _ : Bool => True) x) (O2 : (Lit.int .i64 cut).wf = true) : law22_ProbeTold p l cut = some true := by
  have hl : l.length ≤ 140737488351232 := by have := O1.1; omega
  unfold law22_ProbeTold
  obtain ⟨r1, e1, h1, h2⟩ := pick_in cut (((l.length : Nat) : Int) + 1) (by omega)
  obtain ⟨a, b, e2, hm⟩ := right_in ⟨(IntKind.i64.wrap (Int.tdiv cut (3 : Int))), (IntKind.i64.wrap (Int.tdiv cut (5 : Int)))⟩
  rw [i64_small (by omega), e1, Option.bind_some, e2, Option.bind_some, if_pos (by omega), if_pos (by omega), if_pos (by rw [List.length_take]; omega), if_pos (by rw [List.length_drop]; omega)]
  have eT : probe_Turns p l a b = some l := by
    unfold probe_Turns
    rw [if_pos ⟨by omega, by unfold maxLen; omega⟩]
  simp only
  rw [eT, Option.bind_some, works_eq, Option.bind_some, cond_true]
  have eR : Prb.allP (Prb.allP (p.Good, p.Bad, p.Ready) (l.take r1.toNat) a b) (l.drop r1.toNat) a b = Prb.allP (p.Good, p.Bad, p.Ready) l a b := by
    unfold Prb.allP
    rw [← List.foldl_append, List.take_append_drop]
  rw [allQ_yes p l a b hm, allQ_yes p (l.take r1.toNat) a b hm]
  simp only
  rw [allQ_yes _ (l.drop r1.toNat) a b hm]
  simp only [eR, Er.isOk, cond_true, decide_true, beq_self_eq_true, Bool.and_self]
  rw [if_pos (by omega)]
  obtain ⟨z, _, e⟩ := told_loop ⟨a, b⟩ p l hm hl l.length (Nat.le_refl _)
  have eL : Tn.turnsL a b p l = Tn.tnL (p.Good, p.Bad, p.Ready) l a b l.length := by unfold Tn.turnsL; rw [if_pos hm]
  rw [eL, e]
  simp only [Res.opt]
  unfold Prb.st
  rw [List.take_length, beq_self_eq_true]
end Go.Proofs.Ytkifbcjmmkbilaa.Ag
