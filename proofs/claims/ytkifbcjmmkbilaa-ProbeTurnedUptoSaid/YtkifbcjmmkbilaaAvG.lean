/- The interpreter's operations that make or write memory, held against the program's own. -/
import Derived.Test.YtkifbcjmmkbilaaAvF
set_option linter.unusedVariables false
set_option linter.unusedSimpArgs false
namespace Go.Proofs.Ytkifbcjmmkbilaa.Av
open Go Go.RowKit
variable {P : Program}
section
variable {S : Sto} {H : List Blk} {pl : Pl} {A : Nat → Prop} {ds : List Deferred} {G : World → Prop} {B : Nat} {w0 w : World} {C : Ctx}

/-- A block as it lies behind a step. -/
def BlkOk (S : Sto) (H : List Blk) (pl : Pl) (B : Nat) (w' : World) (p : Option (Nat × Nat)) : Blk → Prop
  | .var cs => ∃ b c us t, p = some (b, c) ∧ B ≤ b ∧ w'.heap[b]? = some (.cells us.toArray t (0, 0)) ∧ Cs (Rep S H pl) cs us ∧ ∀ u ∈ us, u.oneCell' = true
  | .grow e sz ver bv es => 0 < sz ∧ (∀ c ∈ es, c.length = sz) ∧ (p = none → es = []) ∧ (bv = true → ∀ c ∈ es, AV.hbs 0 c = true) ∧
      ∃ xs, w'.ownsRow B e sz (slv p es.length) es.length xs ∧ Cs (Rep S H pl) es.flatten xs ∧ ∀ u ∈ xs, u.oneCell' = true
  | .dead => False

theorem BlkOk.mono {B' : Nat} {S' : Sto} {H' : List Blk} {pl' : Pl} {w' : World} {p : Option (Nat × Nat)} {x : Blk} (hE : Ext B' S H pl S' H' pl') (h : BlkOk S H pl B w' p x) : BlkOk S' H' pl' B w' p x := by
  cases x with
  | dead => exact h.elim
  | var cs =>
    obtain ⟨b, c, us, t, h1, h2, h3, h4, h5⟩ := h
    exact ⟨b, c, us, t, h1, h2, h3, h4.mono fun _ _ r => r.mono hE, h5⟩
  | grow e sz ver bv es =>
    obtain ⟨h1, h2, h3, h4, xs, h5, h6, h7⟩ := h
    exact ⟨h1, h2, h3, h4, xs, h5, h6.mono fun _ _ r => r.mono hE, h7⟩
theorem ownsRow_base {w : World} {B B' : Nat} {e : TypeId} {sz : Nat} {v : Value} {n : Nat} {xs : List Value} (h : w.ownsRow B e sz v n xs) (hb : B' ≤ B) : w.ownsRow B' e sz v n xs := by
  refine ⟨h.1, ?_⟩
  rcases h.2 with h | ⟨g, cap, cur, hv, hB, hg, r⟩
  · exact .inl h
  · exact .inr ⟨g, cap, cur, hv, Nat.le_trans hb hB, hg, r⟩
theorem BlkOk.base {B' : Nat} {w' : World} {p : Option (Nat × Nat)} {x : Blk} (h : BlkOk S H pl B w' p x) (hb : B' ≤ B) : BlkOk S H pl B' w' p x := by
  cases x with
  | dead => exact h.elim
  | var cs =>
    obtain ⟨b, c, us, t, h1, h2, h3, h4, h5⟩ := h
    exact ⟨b, c, us, t, h1, Nat.le_trans hb h2, h3, h4, h5⟩
  | grow e sz ver bv es =>
    obtain ⟨h1, h2, h3, h4, xs, h5, h6, h7⟩ := h
    exact ⟨h1, h2, h3, h4, xs, ownsRow_base h5 hb, h6, h7⟩
theorem BlkOk.lt {w' : World} {p : Option (Nat × Nat)} {x : Blk} (h : BlkOk S H pl B w' p x) {b c : Nat} (hp : p = some (b, c)) : B ≤ b := by
  cases x with
  | dead => exact h.elim
  | var cs =>
    obtain ⟨b', c', us, t, h1, h2, _⟩ := h
    rw [hp] at h1
    cases h1
    exact h2
  | grow e sz ver bv es =>
    obtain ⟨h1, h2, h3, h4, xs, h5, _⟩ := h
    exact (h5.lt b (by rw [slv_some, hp]; rfl)).1

def pushPl (n : Nat) (pl : Pl) (p : Option (Nat × Nat)) : Pl := fun k => if k = n then p else pl k
theorem push_ext {x : Blk} {p : Option (Nat × Nat)} : Ext B S H pl S (H ++ [x]) (pushPl H.length pl p) :=
  ⟨fun a u e => .inl e, S.le_refl, by simp, fun k cs hk e => ⟨cs, by rwa [List.getElem?_append_left hk] at e, by simp [pushPl, Nat.ne_of_lt hk]⟩, fun k e sz ver bv es hk q => ⟨e, ver, bv, es, by rwa [List.getElem?_append_left hk] at q, Nat.le_refl _, fun _ => ⟨rfl, by simp [pushPl, Nat.ne_of_lt hk]⟩⟩⟩

/-- What is own memory holds cells. -/
theorem HRel.cells (h : HRel B S H pl w) {k b : Nat} (l : live H pl k b) : ∃ cs t, w.heap[b]? = some (.cells cs t (0, 0)) := by
  obtain ⟨⟨x, hx, hl⟩, c, hc⟩ := l
  cases x with
  | dead => exact hl.elim
  | var cs =>
    obtain ⟨b', c', us, t, hp, hb, hh, _⟩ := h.var k cs hx
    rw [hc] at hp
    obtain ⟨rfl, rfl⟩ := Prod.mk.inj (Option.some.inj hp)
    exact ⟨_, _, hh⟩
  | grow e sz ver bv es =>
    obtain ⟨_, _, hn, _, xs, ho, _⟩ := h.grow k e sz ver bv es hx
    rcases ho.2 with ⟨h1, _⟩ | ⟨g, cap, cur, hv, hB, hg, r⟩
    · rw [hc] at h1
      simp [slv] at h1
    · rw [hc] at hv
      simp only [slv, Value.slice.injEq, Option.some.injEq, Addr.mk.injEq, and_true, true_and] at hv
      obtain ⟨rfl, rfl⟩ := hv
      exact ⟨_, _, hg⟩
/-- A new block. -/
theorem WRel.push (hG : ∀ w', Below B w0 w' → G w') (h : WRel A G B w0 S H pl w) {x : Blk} {p : Option (Nat × Nat)} {w' : World} (hb : Below w.heap.size w w') (hx : BlkOk S H pl w.heap.size w' p x) : WRel A G B w0 S (H ++ [x]) (pushPl H.length pl p) w' := by
  have hE : Ext 0 S H pl S (H ++ [x]) (pushPl H.length pl p) := push_ext
  have hF := h.h.frame hb S.le_refl (fun _ _ e _ => e)
  have hx' := (hx.base h.base).mono hE
  have hold : ∀ k y, (H ++ [x])[k]? = some y → (k < H.length ∧ H[k]? = some y ∧ pushPl H.length pl p k = pl k) ∨ (k = H.length ∧ y = x ∧ pushPl H.length pl p k = p) := fun k y e => by
    by_cases hk : k < H.length
    · exact .inl ⟨hk, by rwa [List.getElem?_append_left hk] at e, by simp [pushPl, Nat.ne_of_lt hk]⟩
    · have hlt := (List.getElem?_eq_some_iff.1 e).1
      simp at hlt
      have : k = H.length := by omega
      subst this
      simp at e
      exact .inr ⟨rfl, e.symm, by simp [pushPl]⟩
  have hlive : ∀ k b, live (H ++ [x]) (pushPl H.length pl p) k b → (k < H.length ∧ live H pl k b) ∨ (k = H.length ∧ w.heap.size ≤ b) := fun k b ⟨⟨y, hy, hl⟩, c, hc⟩ => by
    rcases hold k y hy with ⟨hk, e, hp⟩ | ⟨hk, rfl, hp⟩
    · exact .inl ⟨hk, ⟨y, e, hl⟩, c, by rwa [hp] at hc⟩
    · exact .inr ⟨hk, hx.lt (hp.symm.trans hc)⟩
  refine ⟨⟨fun k cs e => ?_, fun k e sz ver bv es q => ?_, fun k k' b l l' => ?_, fun a u e k l => ?_⟩, fun a u e => ?_, h.below.trans (hb.mono h.base), Nat.le_trans h.base hb.size, hG _ (h.below.trans (hb.mono h.base)), h.keep.trans (KeepsOthers.of_below hb), avd_frame h.av hb.size (fun k b l => (hlive k b l).elim (fun q => .inl ⟨k, q.2⟩) fun q => .inr q.2) (fun a u e => .inl e), fun b hA => (hb.block b (h.av.old b hA)).trans (h.kp b hA)⟩
  · rcases hold k _ e with ⟨hk, e, hp⟩ | ⟨hk, rfl, hp⟩
    · obtain ⟨b, c, us, t, h1, h2, h3, h4, h5⟩ := hF.var k cs e
      exact ⟨b, c, us, t, by rw [hp]; exact h1, h2, h3, h4.mono fun _ _ r => r.mono hE, h5⟩
    · obtain ⟨b, c, us, t, h1, h2, h3, h4, h5⟩ := hx'
      exact ⟨b, c, us, t, by rw [hp]; exact h1, h2, h3, h4, h5⟩
  · rcases hold k _ q with ⟨hk, q, hp⟩ | ⟨hk, rfl, hp⟩
    · obtain ⟨h1, h2, h3, h4, xs, h5, h6, h7⟩ := hF.grow k e sz ver bv es q
      rw [hp]
      exact ⟨h1, h2, h3, h4, xs, h5, h6.mono fun _ _ r => r.mono hE, h7⟩
    · rw [hp]
      exact hx'
  · rcases hlive k b l with ⟨hk, l⟩ | ⟨hk, hb1⟩ <;> rcases hlive k' b l' with ⟨hk', l'⟩ | ⟨hk', hb2⟩
    · exact h.h.apart k k' b l l'
    · have := (h.h.lt l).2; omega
    · have := (h.h.lt l').2; omega
    · omega
  · rcases hlive k _ l with ⟨hk, l⟩ | ⟨hk, hb1⟩
    · exact hF.sep a u e k l
    · have := World.block_lt_of_cell? w _ (h.imm a u e)
      omega
  · rw [hb.cell (World.block_lt_of_cell? w _ (h.imm a u e))]
    exact h.imm a u e

/-- A block that turns. -/
theorem WRel.turn (hG : ∀ w', Below B w0 w' → G w') (h : WRel A G B w0 S H pl w) {k : Nat} {x y : Blk} {p : Option (Nat × Nat)} {w' : World} (hk : H[k]? = some x) (hE : Ext B S H pl S (H.set k y) (pushPl k pl p))
    (hsz : w.heap.size ≤ w'.heap.size) (hos : w'.os = w.os) (htape : w'.tape = w.tape) (hout : w'.output = w.output)
    (hb : ∀ b, b < w.heap.size → (∀ c, pl k ≠ some (b, c)) → w'.heap[b]? = w.heap[b]?)
    (hx : BlkOk S H pl B w' p y) (hp : ∀ b c, p = some (b, c) → w.heap.size ≤ b ∨ ∃ c', pl k = some (b, c')) (hlx : x.lives) : WRel A G B w0 S (H.set k y) (pushPl k pl p) w' := by
  have hkl : k < H.length := (List.getElem?_eq_some_iff.1 hk).1
  have hx' := hx.mono hE
  have hkeep : ∀ j b, j ≠ k → live H pl j b → w'.heap[b]? = w.heap[b]? := fun j b hj l => by
    refine hb b (h.h.lt l).2 fun c hc => ?_
    exact absurd (h.h.apart j k b l ⟨⟨x, hk, hlx⟩, c, hc⟩) hj
  have hold : ∀ j z, (H.set k y)[j]? = some z → (j ≠ k ∧ H[j]? = some z ∧ pushPl k pl p j = pl j) ∨ (j = k ∧ z = y ∧ pushPl k pl p j = p) := fun j z e => by
    by_cases hj : j = k
    · subst hj
      rw [List.getElem?_set_self hkl] at e
      exact .inr ⟨rfl, (Option.some.inj e).symm, by simp [pushPl]⟩
    · rw [List.getElem?_set_ne (Ne.symm hj)] at e
      exact .inl ⟨hj, e, by simp [pushPl, hj]⟩
  have hB : Below B w0 w' := by
    refine h.below.trans ⟨hos, htape, hout, hsz, fun b hbB => ?_⟩
    refine hb b (Nat.lt_of_lt_of_le hbB h.base) fun c hc => ?_
    have := (h.h.lt (k := k) (b := b) ⟨⟨x, hk, hlx⟩, c, hc⟩).1
    exact absurd hbB (Nat.not_lt.2 this)
  have hKp : KeepsOthers w w' := ⟨hsz, fun j o hj ho => by
    refine (hb j (Array.getElem?_eq_some_iff.1 hj).1 fun c hc => ?_).trans hj
    obtain ⟨cs, t, hcs⟩ := h.h.cells (k := k) (b := j) ⟨⟨x, hk, hlx⟩, c, hc⟩
    rw [hj] at hcs
    cases hcs
    cases ho⟩
  have hlive : ∀ j b, live (H.set k y) (pushPl k pl p) j b → (j ≠ k ∧ live H pl j b) ∨ (j = k ∧ (w.heap.size ≤ b ∨ live H pl k b)) := fun j b ⟨⟨z, hz, hl⟩, c, hc⟩ => by
    rcases hold j z hz with ⟨hj, e, hq⟩ | ⟨hj, rfl, hq⟩
    · exact .inl ⟨hj, ⟨z, e, hl⟩, c, by rwa [hq] at hc⟩
    · refine .inr ⟨hj, ?_⟩
      rw [hq] at hc
      rcases hp b c hc with h1 | ⟨c', h1⟩
      · exact .inl h1
      · exact .inr ⟨⟨x, hk, hlx⟩, c', h1⟩
  refine ⟨⟨fun j cs e => ?_, fun j e sz ver bv es q => ?_, fun j j' b l l' => ?_, fun a u e j l => ?_⟩, fun a u e => ?_, hB, Nat.le_trans h.base hsz, hG _ hB, h.keep.trans hKp, avd_frame h.av hsz (fun j b l => (hlive j b l).elim (fun q => .inl ⟨j, q.2⟩) fun q => q.2.elim .inr fun q => .inl ⟨k, q⟩) (fun a u e => .inl e), fun b hA => (hb b (h.av.old b hA) fun c hc => h.av.liv k b ⟨⟨x, hk, hlx⟩, c, hc⟩ hA).trans (h.kp b hA)⟩
  · rcases hold j _ e with ⟨hj, e, hq⟩ | ⟨hj, rfl, hq⟩
    · obtain ⟨b, c, us, t, h1, h2, h3, h4, h5⟩ := h.h.var j cs e
      exact ⟨b, c, us, t, by rw [hq]; exact h1, h2, by rw [hkeep j b hj ⟨⟨_, e, trivial⟩, c, h1⟩]; exact h3, h4.mono fun _ _ r => r.mono hE, h5⟩
    · obtain ⟨b, c, us, t, h1, h2, h3, h4, h5⟩ := hx'
      exact ⟨b, c, us, t, by rw [hq]; exact h1, h2, h3, h4, h5⟩
  · rcases hold j _ q with ⟨hj, q, hq⟩ | ⟨hj, rfl, hq⟩
    · obtain ⟨h1, h2, h3, h4, xs, h5, h6, h7⟩ := h.h.grow j e sz ver bv es q
      rw [hq]
      refine ⟨h1, h2, h3, h4, xs, ⟨h5.1, ?_⟩, h6.mono fun _ _ r => r.mono hE, h7⟩
      rcases h5.2 with h5 | ⟨g, cap, cur, hv, hBg, hg, r⟩
      · exact .inl h5
      · refine .inr ⟨g, cap, cur, hv, hBg, ?_, r⟩
        have hpj : pl j = some (g, cap) := by
          cases hpl : pl j with
          | none => rw [hpl] at hv; simp [slv] at hv
          | some bc => rw [hpl] at hv; simp [slv] at hv; rw [← hv.1, ← hv.2]
        rw [hkeep j g hj ⟨⟨_, q, trivial⟩, cap, hpj⟩]
        exact hg
    · rw [hq]
      exact hx'
  · rcases hlive j b l with ⟨hj, l⟩ | ⟨hj, hb1⟩ <;> rcases hlive j' b l' with ⟨hj', l'⟩ | ⟨hj', hb2⟩
    · exact h.h.apart j j' b l l'
    · rcases hb2 with hb2 | hb2
      · have := (h.h.lt l).2; omega
      · rw [hj']; exact h.h.apart j k b l hb2
    · rcases hb1 with hb1 | hb1
      · have := (h.h.lt l').2; omega
      · rw [hj]; exact h.h.apart k j' b hb1 l'
    · omega
  · rcases hlive j _ l with ⟨hj, l⟩ | ⟨hj, hb1 | hb1⟩
    · exact h.h.sep a u e j l
    · have := World.block_lt_of_cell? w _ (h.imm a u e)
      omega
    · exact h.h.sep a u e k hb1
  · have hlt := World.block_lt_of_cell? w _ (h.imm a u e)
    rw [World.cell?_of_block (hb a.block hlt fun c hc => (h.h.sep a u e k ⟨⟨x, hk, hlx⟩, c, hc⟩).elim)]
    exact h.imm a u e
end
end Go.Proofs.Ytkifbcjmmkbilaa.Av
