/- A range over a function whose iterator keeps state of its own in cells, within another iterator: the rounds keep the loop's own two blocks, and nothing else is asked of them. -/
import Derived.Test.YtkifbcjmmkbilaaOpen
set_option linter.unusedVariables false
set_option linter.unusedSimpArgs false
namespace Go.Open
open Go.RowKit
variable {F : Fence} {n : Nat} {P : Program}
/-- The loop's own two blocks stay. -/
def Two (B : Nat) (W W2 : World) : Prop := ∀ j, j = B ∨ j = B + 1 → W2.heap[j]? = W.heap[j]?
theorem Two.refl (B : Nat) (W : World) : Two B W W := fun _ _ => rfl
theorem Two.trans {B : Nat} {W W2 W3 : World} (h : Two B W W2) (k : Two B W2 W3) : Two B W W3 := fun j hj => (k j hj).trans (h j hj)
/-- How the body of a round may be left. -/
def twoPost (B : Nat) (I : World → Prop) (Ix : Code → World → Prop) (W : World) : Exit → Act → World → Prop
  | .normal, _, W' => Two B W W' ∧ I W'
  | .ret, _, W' => Two B W W' ∧ Ix .ret W'
  | .exit id, _, W' => Two B W W' ∧ Ix (.exit id) W'
  | .goto t, _, W' => Two B W W' ∧ Ix (.goto t) W'
  | .panic _, _, _ => False
  | .outgrown, _, _ => False
/-- It speaks not of the loop's record. -/
def NoRec (B : Nat) {σ : Type} (I : σ → World → Prop) : Prop := ∀ s W o r, W.heap[B + 1]? = some (.loop r) → I s W → I s (W.putObj (B + 1) o)
theorem wpIn_rangeFunc_two {g : Operand} {ps : Array Tmp} {assign body : Code} {Q : Exit → Act → World → Prop} {a : Act} {w : World}
    (hro : F.round = none) (h1 : F.depth.isSome = true → 1 ≤ n) {gf : Nat} {lb : Array Value} (hg : a.eval g = .func (.func gf) #[] lb) (hFg : F.fn gf) (eg : ∀ args w, (callFunc gf args).run P w = .ok (.enter gf args) w)
    {N : Nat} {encs : Nat → Array Value} {Base : Nat → World → Prop} {Step : Nat → World → World → Prop} (hseq : SeqOpen F (n - 1) P gf lb N encs Base Step) (hps : ∀ k, (encs k).size = ps.size)
    (hstep : ∀ k A B, w.heap.size + 1 < A.heap.size → Step k A B → Two w.heap.size A B)
    (I I' : Nat → World → Prop) (Ix Iy : Code → Nat → World → Prop) (Ax : Nat → Act → World → Prop)
    (hI : NoRec w.heap.size I) (hIx : ∀ c, NoRec w.heap.size (Ix c)) (hIy : ∀ c, NoRec w.heap.size (Iy c)) (hAx : ∀ a', NoRec w.heap.size (fun k W => Ax k a' W)) (h0 : ∀ r, I 0 ((w.alloc (.deferred (some []))).alloc (.loop r)))
    (hbase : ∀ k W, I k W → Base k W) (hIs : ∀ k W W2, k < N → I k W → Step k W W2 → I' k W2)
    (hassign : ∀ (l k : Nat) (W : World) (K : Act → World → Prop), k < N → I' k W → (∀ a' W', Two w.heap.size W W' → Ax k a' W' → K a' W') →
      assign.wpIn (F.inRound l) (n - 1 - 1) P (Exit.then K (fun _ _ _ => False)) { tmps := (ps.zip (encs k)).foldl (fun t (p, v) => t.setIfInBounds p v) a.tmps, defers := [] } W)
    (hbody : ∀ (k : Nat) (a' : Act) (W : World), (∃ r, W.heap[w.heap.size + 1]? = some (.loop r)) → k < N → Ax k a' W → body.wpIn (F.inRound (w.heap.size + 1)) (n - 1 - 1) P (twoPost w.heap.size (I (k + 1)) (fun c => Ix c (k + 1)) W) a' W)
    (hleft : ∀ c k W W2, Ix c (k + 1) W → Step N W W2 → Iy c (k + 1) W2)
    (hdone : ∀ (W W2 : World) (o' : Obj), I N W → Step N W W2 → (∃ r, W2.heap[w.heap.size + 1]? = some (.loop r)) → (W2.putObj (w.heap.size + 1) o').heap[w.heap.size]? = some (.deferred (some [])) → Q .normal { a with defers := { target := .collected w.heap.size, args := #[] } :: a.defers } (W2.putObj (w.heap.size + 1) o'))
    (hstop : ∀ (c : Code) (k : Nat) (W : World), k < N → Iy c (k + 1) W → W.heap[w.heap.size]? = some (.deferred (some [])) → c.wpIn F n P Q { a with defers := { target := .collected w.heap.size, args := #[] } :: a.defers } W) :
    (Code.rangeFunc g ps assign body).wpIn F n P Q a w := by
  refine wpIn_rangeFunc ?_
  intro fn hfn
  rw [hro]
  obtain ⟨rec, hrec⟩ : ∃ rec : LoopState → Option Code → Loop, rec = fun st pe => { state := st, pending := pe, fn, tmps := a.tmps, params := ps, assign, body, defers := w.heap.size } := ⟨_, rfl⟩
  obtain ⟨W1, hW1⟩ : ∃ W1, (w.alloc (.deferred (some []))).alloc (.loop (rec .ready none)) = W1 := ⟨_, rfl⟩
  have hL1 : W1.heap[w.heap.size + 1]? = some (.loop (rec .ready none)) := by
    rw [← hW1]; have := World.alloc_heap_new (w.alloc (.deferred (some []))) (.loop (rec .ready none)); rwa [World.size_alloc] at this
  have hK1 : W1.heap[w.heap.size]? = some (.deferred (some [])) := by
    rw [← hW1]; exact (Below.heap_alloc _ _ _ (by simp)).trans (World.alloc_heap_new w _)
  have hI1 : I 0 W1 := by rw [← hW1]; exact h0 _
  have hltH : ∀ {W : World} {r : Loop}, W.heap[w.heap.size + 1]? = some (.loop r) → w.heap.size + 1 < W.heap.size := fun h => (Array.getElem?_eq_some_iff.1 h).1
  refine ⟨w.heap.size + 1, [{ target := .collected w.heap.size, args := #[] }], W1, { target := .fn (.func gf) lb, args := #[.func (.yield (w.heap.size + 1)) #[] #[]] }, W1, gf,
    #[.func (.yield (w.heap.size + 1)) #[] #[]] ++ lb, W1, ?_, ?_, ?_, ?_, h1, ?_⟩
  · rw [← hW1, hrec]; exact run_enterLoop_outer _ _ _ _ _
  · simp only [resolve, hg]
    simp [go_sem]
  · intro f' hf'; simp [Target.leads] at hf'; subst hf'; exact hFg
  · simp [invoke, go_sem, eg]
  · refine (hseq (w.heap.size + 1)
      (fun k W => I k W ∧ W.heap[w.heap.size + 1]? = some (.loop (rec .ready none)) ∧ W.heap[w.heap.size]? = some (.deferred (some [])))
      (fun k W => I' k W ∧ W.heap[w.heap.size + 1]? = some (.loop (rec .ready none)) ∧ W.heap[w.heap.size]? = some (.deferred (some [])))
      (fun k W => ∃ c, Ix c k W ∧ W.heap[w.heap.size + 1]? = some (.loop (rec .done (some c))) ∧ W.heap[w.heap.size]? = some (.deferred (some [])))
      W1
      (fun k A h => hbase k A h.1)
      (fun k A B hk h hs => ⟨hIs k A B hk h.1 hs, (hstep k A B (hltH h.2.1) hs _ (.inr rfl)).trans h.2.1, (hstep k A B (hltH h.2.1) hs _ (.inl rfl)).trans h.2.2⟩)
      ?_ ⟨hI1, hL1, hK1⟩).mono ?_
    · rintro k W hlen ⟨hi, hl, hk⟩
      have hlt : w.heap.size + 1 < W.heap.size := (Array.getElem?_eq_some_iff.1 hl).1
      have hy := run_yield (P := P) (args := encs k) hl (by rw [hrec]; exact hps k)
      rw [hrec] at hy
      refine ⟨fn, _, assign, body, hy, roundIn_of_wpIn hfn (hassign _ k W _ hlen hi ?_)⟩
      clear hy
      intro a' Wa hkfa hax
      replace hl := (hkfa _ (.inr rfl)).trans hl
      replace hk := (hkfa _ (.inl rfl)).trans hk
      replace hlt : w.heap.size + 1 < Wa.heap.size := (Array.getElem?_eq_some_iff.1 hl).1
      clear hi hkfa
      obtain ⟨W, rfl⟩ : ∃ W, W = Wa := ⟨_, rfl⟩
      refine ⟨_, run_beginRound hl (by rw [hrec]), ?_⟩
      have hl2 : (W.putObj (w.heap.size + 1) (.loop { rec .ready none with state := .busy })).heap[w.heap.size + 1]? = some (.loop { rec .ready none with state := .busy }) := World.putObj_heap_same hlt
      have hk2 : (W.putObj (w.heap.size + 1) (.loop { rec .ready none with state := .busy })).heap[w.heap.size]? = some (.deferred (some [])) := (World.putObj_heap_other (by omega)).trans hk
      refine wpIn_mono (hbody k a' _ ⟨_, hl2⟩ hlen (hAx a' k _ _ _ hl hax)) ?_
      have fin : ∀ (jump : Option Code) (W3 : World), Two w.heap.size (W.putObj (w.heap.size + 1) (.loop { rec .ready none with state := .busy })) W3 →
          (Instr.endRound (w.heap.size + 1) jump).run P W3 = .ok (.bool jump.isNone) (W3.putObj (w.heap.size + 1) (.loop (rec (if jump.isNone then .ready else .done) jump))) ∧
          W3.heap[w.heap.size + 1]? = some (.loop { rec .ready none with state := .busy }) ∧
          (W3.putObj (w.heap.size + 1) (.loop (rec (if jump.isNone then .ready else .done) jump))).heap[w.heap.size + 1]? = some (.loop (rec (if jump.isNone then .ready else .done) jump)) ∧
          (W3.putObj (w.heap.size + 1) (.loop (rec (if jump.isNone then .ready else .done) jump))).heap[w.heap.size]? = some (.deferred (some [])) := fun jump W3 hk3 => by
        have hl3 := (hk3 _ (.inr rfl)).trans hl2
        have := run_endRound (P := P) jump hl3
        rw [hrec] at this ⊢
        exact ⟨this, by rw [hrec] at hl3; exact hl3, World.putObj_heap_same (Array.getElem?_eq_some_iff.1 hl3).1, (World.putObj_heap_other (by omega)).trans ((hk3 _ (.inl rfl)).trans hk2)⟩
      rintro e a3 W3 hp
      cases e with
      | normal =>
        obtain ⟨hk3, hi3⟩ := hp
        obtain ⟨hr, hl3, hl4, hk4⟩ := fin none W3 hk3
        exact ⟨_, _, hr, .inl ⟨rfl, ⟨hI _ _ _ _ hl3 hi3, hl4, hk4⟩⟩⟩
      | ret =>
        obtain ⟨hk3, hi3⟩ := hp
        obtain ⟨hr, hl3, hl4, hk4⟩ := fin (some .ret) W3 hk3
        exact ⟨_, _, hr, .inr ⟨rfl, .ret, hIx _ _ _ _ _ hl3 hi3, hl4, hk4⟩⟩
      | exit id =>
        obtain ⟨hk3, hi3⟩ := hp
        obtain ⟨hr, hl3, hl4, hk4⟩ := fin (some (.exit id)) W3 hk3
        exact ⟨_, _, hr, .inr ⟨rfl, .exit id, hIx _ _ _ _ _ hl3 hi3, hl4, hk4⟩⟩
      | goto t =>
        obtain ⟨hk3, hi3⟩ := hp
        obtain ⟨hr, hl3, hl4, hk4⟩ := fin (some (.goto t)) W3 hk3
        exact ⟨_, _, hr, .inr ⟨rfl, .goto t, hIx _ _ _ _ _ hl3 hi3, hl4, hk4⟩⟩
      | panic ch => exact hp.elim
      | outgrown => exact hp.elim
    · rintro e W2 ⟨⟨v, rfl⟩, (⟨WX, ⟨hi, hl, hk⟩, hst⟩ | ⟨k, WX, hkN, ⟨c, hi, hl, hk⟩, hst⟩)⟩
      · have hst2 := hstep _ _ _ (hltH hl) hst
        replace hl := (hst2 _ (.inr rfl)).trans hl
        replace hk := (hst2 _ (.inl rfl)).trans hk
        exact ⟨none, _, by have := run_endLoop (P := P) hl (by rw [hrec]; simp); rw [hrec] at this; exact this, hdone WX W2 _ hi hst ⟨_, hl⟩ ((World.putObj_heap_other (by omega)).trans hk)⟩
      · have hi2 := hleft c k WX W2 hi hst
        have hst2 := hstep _ _ _ (hltH hl) hst
        replace hl := (hst2 _ (.inr rfl)).trans hl
        replace hk := (hst2 _ (.inl rfl)).trans hk
        exact ⟨some c, _, by have := run_endLoop (P := P) hl (by rw [hrec]; simp); rw [hrec] at this; exact this, hstop c k _ hkN (hIy c _ _ _ _ hl hi2) ((World.putObj_heap_other (by omega)).trans hk)⟩

end Go.Open
