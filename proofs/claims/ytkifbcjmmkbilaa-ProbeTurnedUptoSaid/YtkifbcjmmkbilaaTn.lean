/- What probe.Turns hands out, by hand: the places at which a probe turns. -/
import Derived.Test.YtkifbcjmmkbilaaTnR
import Derived.Test.YtkifbcjmmkbilaaTwo
import Derived.Test.YtkifbcjmmkbilaaAvS
set_option linter.unusedVariables false
set_option linter.unusedSimpArgs false
namespace Go.Proofs.Ytkifbcjmmkbilaa.Tn
open Go Go.RowKit Go.Shelf Go.Open Go.Proofs.YtkifbcjmmkbilaaW.PrintWords Go.Proofs.Ytkifbcjmmkbilaa.Prb Go.Proofs.Ytkifbcjmmkbilaa.Av
attribute [local go_sem] Oper.semAt_some

/-- Does it turn at outcome k? -/
def tnB (p : Pr) (l : List Bool) (rise fall : Int) (k : Nat) : Bool := (st p l rise fall (k + 1)).2.2 != (st p l rise fall k).2.2
/-- The turns among the first k outcomes. -/
def tnL (p : Pr) (l : List Bool) (rise fall : Int) (k : Nat) : List (Nat × Bool) := ((List.range k).filter (tnB p l rise fall)).map fun i => (i, (st p l rise fall (i + 1)).2.2)
theorem tnL_succ (p : Pr) (l : List Bool) (rise fall : Int) (k : Nat) : tnL p l rise fall (k + 1) = tnL p l rise fall k ++ (if tnB p l rise fall k then [(k, (st p l rise fall (k + 1)).2.2)] else []) := by
  unfold tnL
  rw [List.range_succ, List.filter_append, List.map_append]
  by_cases h : tnB p l rise fall k = true <;> simp [h]
theorem tnL_pre (p : Pr) (l : List Bool) (rise fall : Int) (k : Nat) : ∀ d, ∃ r, tnL p l rise fall (k + d) = tnL p l rise fall k ++ r
  | 0 => ⟨[], by simp⟩
  | d + 1 => by
    obtain ⟨r, hr⟩ := tnL_pre p l rise fall k d
    rw [← Nat.add_assoc, tnL_succ, hr, List.append_assoc]
    exact ⟨_, rfl⟩
theorem tnL_get (p : Pr) (l : List Bool) (rise fall : Int) (k N : Nat) (h : k < N) (ht : tnB p l rise fall k = true) : (tnL p l rise fall N)[(tnL p l rise fall k).length]? = some (k, (st p l rise fall (k + 1)).2.2) ∧ (tnL p l rise fall k).length < (tnL p l rise fall N).length ∧ (tnL p l rise fall (k + 1)).length = (tnL p l rise fall k).length + 1 := by
  obtain ⟨r, hr⟩ := tnL_pre p l rise fall (k + 1) (N - (k + 1))
  rw [show k + 1 + (N - (k + 1)) = N by omega] at hr
  have hs := tnL_succ p l rise fall k
  rw [if_pos ht] at hs
  refine ⟨?_, ?_, by rw [hs]; simp⟩
  · rw [hr, hs]; simp
  · rw [hr, hs]; simp
theorem tnL_skip (p : Pr) (l : List Bool) (rise fall : Int) (k : Nat) (ht : tnB p l rise fall k = false) : tnL p l rise fall (k + 1) = tnL p l rise fall k := by
  rw [tnL_succ, ht]; simp
def tnE (p : Pr) (l : List Bool) (rise fall : Int) (j : Nat) : Array Value := match (tnL p l rise fall l.length)[j]? with
  | some x => #[.int .i64 (x.1 : Nat), .bool x.2]
  | none => #[]
theorem stepR_trans {n0 m : Nat} {W W2 W3 : World} (h : StepR n0 m W W2) (k : StepR n0 m W2 W3) : StepR n0 m W W3 :=
  ⟨k.os.trans h.os, k.tape.trans h.tape, k.output.trans h.output, Nat.le_trans h.size k.size, fun b hb hr => (k.block b (Nat.lt_of_lt_of_le hb h.size) hr).trans (h.block b hb hr)⟩
theorem stepR_put {n0 m : Nat} {W W2 : World} (h : StepR n0 m W W2) (b : Nat) (o : Obj) (h1 : n0 ≤ b) (h2 : b < n0 + m) : StepR n0 m W (W2.putObj b o) :=
  ⟨h.os, h.tape, h.output, by rw [World.putObj_size]; exact h.size, fun k hk hr => (World.putObj_heap_other (by omega)).trans (h.block k hk hr)⟩
/-- The six boxes: the round's own function, what was, and the four of the steps. -/
structure Bx (n0 y : Nat) (s : Value) (rise fall : Int) (was r : Pr) (W : World) : Prop where
  b0 : W.heap[n0]? = some (.cells #[.func (.yield y) #[] #[]] 52 (0, 0))
  b1 : ∃ t, W.heap[n0 + 1]? = some (.cells (cells was) t (0, 0))
  b2 : W.heap[n0 + 2]? = some (.cells (cells r) 23 (0, 0))
  b3 : W.heap[n0 + 3]? = some (.cells #[s] 24 (0, 0))
  b4 : W.heap[n0 + 4]? = some (.cells #[.int .i64 rise] 3 (0, 0))
  b5 : W.heap[n0 + 5]? = some (.cells #[.int .i64 fall] 3 (0, 0))
theorem Bx.keep {n0 y : Nat} {s : Value} {rise fall : Int} {was r : Pr} {W W2 : World} (h : Bx n0 y s rise fall was r W) (k : ∀ b, n0 ≤ b → b < n0 + 6 → W2.heap[b]? = W.heap[b]?) : Bx n0 y s rise fall was r W2 :=
  ⟨(k _ (by omega) (by omega)).trans h.b0, h.b1.imp fun t q => (k _ (by omega) (by omega)).trans q, (k _ (by omega) (by omega)).trans h.b2, (k _ (by omega) (by omega)).trans h.b3, (k _ (by omega) (by omega)).trans h.b4, (k _ (by omega) (by omega)).trans h.b5⟩
/-- How the outer loop stands. -/
def Lk (n0 : Nat) (J : Nat → World → Prop) (j : Nat) (W : World) : Prop := ∃ W1, J j W1 ∧ StepR n0 8 W1 W ∧ n0 + 8 ≤ W.heap.size
theorem putH (W : World) (l : Nat) (o : Obj) (b : Nat) (h : b ≠ l) : (W.putObj l o).heap[b]? = W.heap[b]? := World.putObj_heap_other h
theorem Lk.put {n0 : Nat} {J : Nat → World → Prop} {j : Nat} {W : World} (h : Lk n0 J j W) (o : Obj) : Lk n0 J j (W.putObj (n0 + 7) o) := by
  obtain ⟨W1, h1, h2, h3⟩ := h
  exact ⟨W1, h1, stepR_put h2 _ _ (by omega) (by omega), by rw [World.putObj_size]; exact h3⟩
theorem roundIn_in {n n2 l y : Nat} {P : Program} {f : FuncId} {tm : Array Value} {a b : Code} {w : World} {R : Ending → World → Prop} (h : RoundIn Fence.wide n P y f tm a b w R) : RoundIn (Fence.wide.inRound l) n2 P y f tm a b w R :=
  ⟨h.1, fun c cs _ => h.2 c cs (room_wide _)⟩
set_option maxRecDepth 100000 in
set_option maxHeartbeats 2000000 in
theorem turns_walk {G : World → Prop} {S : Sto} (aR aF aL : Addr) (pb po : Nat) (ps : Option Nat) (rise fall : Int) (p : Pr) (ad : Option Addr) (cap : Nat) (l : List Bool)
    (hm : mayB rise fall = true) (hR : S aR = some (.int .i64 rise)) (hF : S aF = some (.int .i64 fall)) (hP0 : S ⟨pb, po, ps⟩ = some (.int .i64 p.1)) (hP1 : S ⟨pb, po + 1, none⟩ = some (.int .i64 p.2.1)) (hP2 : S ⟨pb, po + 2, none⟩ = some (.bool p.2.2))
    (hL : S aL = some (.slice ad l.length cap)) (hl : 0 < l.length → ∃ d, ad = some d ∧ ∀ j, j < l.length → S (d.add j) = some (.bool (l.getD j false))) (hn : l.length ≤ 9223372036854775807)
    (dp y : Nat) (J : Nat → World → Prop) (J' : Nat → Nat → World → Prop) (Jx : Nat → World → Prop) (W : World)
    (hB : ∀ k W1, J k W1 → (∀ a u, S a = some u → W1.cell? a = some u) ∧ G W1 ∧ W.heap.size ≤ W1.heap.size)
    (hS : ∀ k W1 W2, k < (tnL p l rise fall l.length).length → J k W1 → StepR W.heap.size 8 W1 W2 → W.heap.size + 8 ≤ W2.heap.size → J' W1.heap.size k W2)
    (hY : ∀ q k W1, k < (tnL p l rise fall l.length).length → J' q k W1 → YieldAt Fence.wide (dp - 1) Try.prog y (tnE p l rise fall k) W1 fun e W' => (∀ b, (W.heap.size ≤ b ∧ b < W.heap.size + 8) ∨ (q ≤ b ∧ b < W1.heap.size) → W'.heap[b]? = W1.heap[b]?) ∧ ((e = .returned (.bool true) ∧ J (k + 1) W') ∨ (e = .returned (.bool false) ∧ Jx (k + 1) W')))
    (h0 : J 0 W) :
    CallsIn Fence.wide dp Try.prog 23 #[.func (.yield y) #[] #[], .pointer (some aR), .pointer (some aF), .pointer (some ⟨pb, po, ps⟩), .pointer (some aL)] W fun e W' => (∃ v, e = .returned v) ∧ ((∃ W1, J (tnL p l rise fall l.length).length W1 ∧ StepR W.heap.size 8 W1 W') ∨ (∃ k W1, k < (tnL p l rise fall l.length).length ∧ Jx (k + 1) W1 ∧ StepR W.heap.size 8 W1 W')) := by
  refine callsIn_of_wp_marks Try.func23 rfl trivial ?_ rfl
  simp only [Try.ntmps23, List.size_toArray, List.length_cons, List.length_nil, Nat.reduceAdd, Nat.reduceSub, Array.replicate_succ, Array.replicate_zero, List.push_toArray, List.append_toArray, List.nil_append, List.cons_append]
  obtain ⟨p1, p2, p3⟩ := p
  have him := (hB 0 W h0).1
  have hb1 : Below W.heap.size W (W.alloc (.cells #[.func (.yield y) #[] #[]] 52)) := (Below.refl _ _).alloc (Nat.le_refl _) _
  have hb2 : Below W.heap.size W ((W.alloc (.cells #[.func (.yield y) #[] #[]] 52)).alloc (.cells #[.int .i64 p1, .int .i64 p2, .bool p3] 23)) := below_alloc hb1 _
  have im1 : ∀ a u, S a = some u → (W.alloc (.cells #[.func (.yield y) #[] #[]] 52)).cell? a = some u := fun a u e => (hb1.cell (World.block_lt_of_cell? W _ (him a u e))).trans (him a u e)
  have im2 : ∀ a u, S a = some u → ((W.alloc (.cells #[.func (.yield y) #[] #[]] 52)).alloc (.cells #[.int .i64 p1, .int .i64 p2, .bool p3] 23)).cell? a = some u := fun a u e => (hb2.cell (World.block_lt_of_cell? W _ (him a u e))).trans (him a u e)
  have cR := im1 _ _ hR
  have cF := im1 _ _ hF
  have cP0 := im1 _ _ hP0
  have cP1 := im1 _ _ hP1
  have cP2 := im1 _ _ hP2
  have dR := im2 _ _ hR
  have dF := im2 _ _ hF
  have dP0 := im2 _ _ hP0
  have dP1 := im2 _ _ hP1
  have dP2 := im2 _ _ hP2
  have dL := im2 _ _ hL
  simp only at cP0 cP1 cP2 dP0 dP1 dP2
  have IM := Lib.hid him
  have HB := Lib.hid hb2
  clear him hb1 hb2 im1 im2
  have C := fun w => may_calls rise fall w
  rw [hm] at C
  gi_wp2
  refine ⟨trivial, fun h => by simp [Fence.wide] at h, ?_⟩
  refine (callsIn_wide.2 (C _)).mono ?_
  rintro e w2 ⟨rfl, rfl⟩
  clear C
  have C := fun w => steps_calls (p1, p2, p3) (.slice ad l.length cap) rfl rise fall w
  simp only [enc, cells] at C
  gi_wp2
  refine ⟨trivial, fun h => by simp [Fence.wide] at h, ?_⟩
  refine (callsIn_wide.2 (C _)).mono ?_
  rintro e w2 ⟨rfl, rfl⟩
  clear C cR cF cP0 cP1 cP2 dR dF dP0 dP1 dP2 dL
  obtain ⟨n0, hn0⟩ : ∃ n0, W.heap.size = n0 := ⟨_, rfl⟩
  have hI0 : ∀ x, x = ((((((W.alloc (.cells #[.func (.yield y) #[] #[]] 52)).alloc (.cells #[.int .i64 p1, .int .i64 p2, .bool p3] 23)).alloc (.cells #[.int .i64 p1, .int .i64 p2, .bool p3] 23)).alloc (.cells #[.slice ad l.length cap] 24)).alloc (.cells #[.int .i64 rise] 3)).alloc (.cells #[.int .i64 fall] 3)) →
      x.heap.size = n0 + 6 ∧ Bx n0 y (.slice ad l.length cap) rise fall (p1, p2, p3) (p1, p2, p3) x ∧ Below n0 W x := by
    rintro x rfl
    rw [← hn0]
    refine ⟨by simp, ⟨?_, ⟨23, ?_⟩, ?_, ?_, ?_, ?_⟩, ?_⟩
    · exact (six W.heap _ _ _ _ _ _).1
    · exact (six W.heap _ _ _ _ _ _).2.1
    · exact (six W.heap _ _ _ _ _ _).2.2.1
    · exact (six W.heap _ _ _ _ _ _).2.2.2.1
    · exact (six W.heap _ _ _ _ _ _).2.2.2.2.1
    · exact (six W.heap _ _ _ _ _ _).2.2.2.2.2
    · exact below_alloc (below_alloc (below_alloc (below_alloc (below_alloc (below_alloc (Below.refl _ _) _) _) _) _) _) _
  gi_wp2
  obtain ⟨x, hx⟩ : ∃ x, x = ((((((W.alloc (.cells #[.func (.yield y) #[] #[]] 52)).alloc (.cells #[.int .i64 p1, .int .i64 p2, .bool p3] 23)).alloc (.cells #[.int .i64 p1, .int .i64 p2, .bool p3] 23)).alloc (.cells #[.slice ad l.length cap] 24)).alloc (.cells #[.int .i64 rise] 3)).alloc (.cells #[.int .i64 fall] 3)) := ⟨_, rfl⟩
  obtain ⟨hsz, hbx, hbel⟩ := hI0 x hx
  rw [← hx]
  clear hI0 hx HB
  have hm1 : l.length ≤ 9223372036854775807 := hn
  obtain ⟨T, hT⟩ : ∃ T, (tnL (p1, p2, p3) l rise fall l.length).length = T := ⟨_, rfl⟩
  rw [hT] at hS hY
  simp only [hn0] at hS hY
  -- the outcomes, wherever the outer loop stands
  have hOut : ∀ j W1 V, J j W1 → StepR n0 8 W1 V → Kd.bool.C V ad l.length l := fun j W1 V hj hs => Kd.C_of_reads (d := false) ⟨rfl, hn, fun h0 => by
    obtain ⟨d, e, hc⟩ := hl h0
    refine ⟨d, e, fun i hi => ?_⟩
    have h1 := (hB j W1 hj).1 _ _ (hc i hi)
    have h2 := World.block_lt_of_cell? W _ (IM.out _ _ (hc i hi))
    have h3 := World.block_lt_of_cell? W1 _ h1
    rw [World.cell?, hs.block _ h3 (.inl (by omega))]
    exact h1⟩
  refine wpIn_rangeFunc_two rfl (fun h => by simp [Fence.wide] at h) (gf := 27) (lb := #[.pointer (some ⟨n0 + 3, 0, none⟩), .pointer (some ⟨n0 + 2, 0, none⟩), .pointer (some ⟨n0 + 4, 0, none⟩), .pointer (some ⟨n0 + 5, 0, none⟩)])
    rfl trivial (enters_of Try.func27 (by kernel_rfl) rfl)
    (steps1_open (n0 + 3) (n0 + 2) (n0 + 4) (n0 + 5) ad cap (p1, p2, p3) l rise fall hm _ hm1) (fun _ => rfl) ?step
    (fun k V => Bx n0 y (.slice ad l.length cap) rise fall (st (p1, p2, p3) l rise fall k) (st (p1, p2, p3) l rise fall k) V ∧ Lk n0 J (tnL (p1, p2, p3) l rise fall k).length V)
    (fun k V => Bx n0 y (.slice ad l.length cap) rise fall (st (p1, p2, p3) l rise fall k) (st (p1, p2, p3) l rise fall (k + 1)) V ∧ Lk n0 J (tnL (p1, p2, p3) l rise fall k).length V)
    (fun c _ V => c = .ret ∧ ∃ j W1, j < T ∧ Jx (j + 1) W1 ∧ StepR n0 8 W1 V) (fun c _ V => c = .ret ∧ ∃ j W1, j < T ∧ Jx (j + 1) W1 ∧ StepR n0 8 W1 V)
    (fun k a' V => ∃ Q W1, V.heap[Q]? = some (.cells (cells (st (p1, p2, p3) l rise fall (k + 1))) 23 (0, 0)) ∧ J (tnL (p1, p2, p3) l rise fall k).length W1 ∧ StepR n0 8 W1 V ∧ W1.heap.size ≤ Q ∧ n0 + 8 ≤ Q ∧
      Bx n0 y (.slice ad l.length cap) rise fall (st (p1, p2, p3) l rise fall k) (st (p1, p2, p3) l rise fall (k + 1)) V ∧
      a' = { tmps := #[.func (.yield y) #[] #[], .pointer (some aR), .pointer (some aF), .pointer (some ⟨pb, po, ps⟩), .pointer (some aL), .pointer (some ⟨n0, 0, none⟩), .pointer (some ⟨n0 + 1, 0, none⟩), .int .i64 k, .pointer (some ⟨Q, 0, none⟩), undef, .int .i64 rise, .int .i64 fall, .bool true, .bool false, .agg #[.int .i64 p1, .int .i64 p2, .bool p3], .agg #[.int .i64 p1, .int .i64 p2, .bool p3], .slice ad l.length cap, .int .i64 rise, .int .i64 fall,
        .func (.func 27) #[] #[.pointer (some ⟨n0 + 3, 0, none⟩), .pointer (some ⟨n0 + 2, 0, none⟩), .pointer (some ⟨n0 + 4, 0, none⟩), .pointer (some ⟨n0 + 5, 0, none⟩)], .int .i64 k, enc (st (p1, p2, p3) l rise fall (k + 1)), undef, undef, undef, undef, undef, undef, undef, undef, undef, undef, undef, undef, undef, undef, undef, undef, undef, undef, undef, undef, undef, undef, undef], defers := [] })
    ?hI ?hIx ?hIy ?hAx ?h0 ?base ?is ?assign ?body ?left ?done ?stop
  case step =>
    rintro k X Y hlt ⟨h1, h2⟩
    by_cases hk : k < l.length
    · obtain ⟨hb, _⟩ := h1 hk
      exact fun j hj => hb.block j (by omega) (by omega)
    · rw [h2 hk]
      exact Two.refl _ _
  case hI =>
    rintro k V o r hr ⟨h1, h2⟩
    have e : x.heap.size + 1 = n0 + 7 := by omega
    rw [e]
    exact ⟨h1.keep fun b _ _ => putH _ _ _ _ (by omega), h2.put o⟩
  case hIx =>
    rintro c k V o r hr ⟨rfl, j, W1, h1, h2, h3⟩
    exact ⟨rfl, j, W1, h1, h2, stepR_put h3 _ _ (by omega) (by omega)⟩
  case hIy =>
    rintro c k V o r hr ⟨rfl, j, W1, h1, h2, h3⟩
    exact ⟨rfl, j, W1, h1, h2, stepR_put h3 _ _ (by omega) (by omega)⟩
  case hAx =>
    rintro a' k V o r hr ⟨Q, W1, q1, q2, q3, q4, q5, q6, q7⟩
    exact ⟨Q, W1, (putH _ _ _ _ (by omega)).trans q1, q2, stepR_put q3 _ _ (by omega) (by omega), q4, q5, q6.keep fun b _ _ => putH _ _ _ _ (by omega), q7⟩
  case h0 =>
    intro r
    have hb : Below x.heap.size x ((x.alloc (.deferred (some []))).alloc (.loop r)) := below_alloc (below_alloc (Below.refl _ _) _) _
    refine ⟨hbx.keep fun b _ _ => hb.block b (by omega), W, h0, .of_below (by rw [hn0]; exact hbel.trans (hb.mono (by omega))), ?_⟩
    rw [World.size_alloc, World.size_alloc]
    omega
  case base =>
    rintro k V ⟨h1, W1, j1, j2, j3⟩
    exact ⟨h1.b3, h1.b2, h1.b4, h1.b5, hOut _ W1 V j1 j2⟩
  case is =>
    rintro k V V2 hk ⟨h1, W1, j1, j2, j3⟩ hs
    obtain ⟨hb, hp⟩ := hs.1 hk
    have q : ∀ (j : Nat) (o : Obj), V.heap[j]? = some o → j ≠ n0 + 2 → V2.heap[j]? = some o := fun j o hj hne => (hb.block j (Array.getElem?_eq_some_iff.1 hj).1 hne).trans hj
    exact ⟨⟨q _ _ h1.b0 (by omega), h1.b1.imp fun t e => q _ _ e (by omega), hp, q _ _ h1.b3 (by omega), q _ _ h1.b4 (by omega), q _ _ h1.b5 (by omega)⟩,
      W1, j1, stepR_trans j2 ⟨hb.os, hb.tape, hb.output, hb.size, fun b h2 hr => hb.block b h2 (by omega)⟩, Nat.le_trans j3 hb.size⟩
  case assign =>
    rintro y' k V K hk ⟨h1, W1, j1, j2, j3⟩ hK
    obtain ⟨⟨r1, r2, r3⟩, hr⟩ : ∃ r, st (p1, p2, p3) l rise fall (k + 1) = r := ⟨_, rfl⟩
    simp only [Prb.encs, hr, enc, cells]
    have hbV : ∀ o, Below V.heap.size V (V.alloc o) := fun o => below_alloc (Below.refl _ _) o
    gi_wp2
    exact hK _ _ (fun j hj => (hbV _).block j (by omega)) ⟨V.heap.size, W1, by rw [hr]; exact blk_new _ _, j1, stepR_trans j2 (.of_below (hbV _)), j2.size, j3, h1.keep fun b _ _ => (hbV _).block b (by omega), by simp only [hr, enc, cells]⟩
  case body =>
    rintro k a' V hrec hk ⟨Q, W1, q1, q2, q3, q4, q5, q6, rfl⟩
    obtain ⟨⟨r1, r2, r3⟩, hr⟩ : ∃ r, st (p1, p2, p3) l rise fall (k + 1) = r := ⟨_, rfl⟩
    obtain ⟨⟨s1, s2, s3⟩, hs⟩ : ∃ r, st (p1, p2, p3) l rise fall k = r := ⟨_, rfl⟩
    obtain ⟨b0, ⟨t1, b1⟩, b2, b3, b4, b5⟩ := q6
    rw [hr] at q1 b2
    rw [hs] at b1
    simp only [hr, enc, cells] at q1 b1 b2 ⊢
    have c0 := blk_cell b1 0
    have c1 := blk_cell b1 1
    have c2 := blk_cell b1 2
    simp only [List.getElem?_toArray, List.getElem?_cons_zero, List.getElem?_cons_succ] at c0 c1 c2
    have hQ := (Array.getElem?_eq_some_iff.1 q1).1
    have hbV : Below V.heap.size V (V.alloc (.cells #[.int .i64 s1, .int .i64 s2, .bool s3] 23)) := below_alloc (Below.refl _ _) _
    gi_wp2
    obtain ⟨V1, hV1⟩ : ∃ V1, V.alloc (.cells #[.int .i64 s1, .int .i64 s2, .bool s3] 23) = V1 := ⟨_, rfl⟩
    have hz1 : V1.heap.size = V.heap.size + 1 := by rw [← hV1, World.size_alloc]
    have d1 : V1.heap[n0 + 1]? = some (.cells #[.int .i64 s1, .int .i64 s2, .bool s3] t1 (0, 0)) := by rw [← hV1]; exact (hbV.block _ (by omega)).trans b1
    have dQ : V1.heap[Q]? = some (.cells #[.int .i64 r1, .int .i64 r2, .bool r3] 23 (0, 0)) := by rw [← hV1]; exact (hbV.block _ hQ).trans q1
    have dT : V1.heap[V.heap.size]? = some (.cells #[.int .i64 s1, .int .i64 s2, .bool s3] 23 (0, 0)) := by rw [← hV1]; exact blk_new _ _
    have dk : ∀ b, b < V.heap.size → V1.heap[b]? = V.heap[b]? := fun b hb => by rw [← hV1]; exact hbV.block b hb
    have dS : StepR n0 8 W1 V1 := by rw [← hV1]; exact stepR_trans q3 (.of_below hbV)
    have dz := q3.size
    rw [hV1]
    clear hV1 hbV c0 c1 c2
    have c0 := blk_cell dQ 0
    have c1 := blk_cell dQ 1
    have c2 := blk_cell d1 2
    have f0 := blk_frozen dT 0
    have f1 := blk_frozen dT 1
    have f2 := blk_frozen dT 2
    have o0 := blk_cell dT 0
    have o1 := blk_cell dT 1
    have o2 := blk_cell dT 2
    simp only [List.getElem?_toArray, List.getElem?_cons_zero, List.getElem?_cons_succ] at c0 c1 c2 o0 o1 o2
    have hne : V.heap.size ≠ Q := by omega
    have hne2 : V.heap.size ≠ n0 + 1 := by omega
    have hne3 : Q ≠ V.heap.size := by omega
    have hne4 : n0 + 1 ≠ V.heap.size := by omega
    refine reg7 (N := n0 + 1) (Q := Q) (TB := V.heap.size) (r3 := r3) (s3 := s3) c0 c1 c2 o0 o1 o2 f0 f1 f2 ?_ (fun _ _ _ h => h) hne hne2 hne3 hne4
    simp only
    obtain ⟨V2, hV2⟩ : ∃ V2, (((V1.setCell ⟨V.heap.size, 0, none⟩ (.int .i64 r1)).setCell ⟨V.heap.size, 1, none⟩ (.int .i64 r2)).setCell ⟨V.heap.size, 2, none⟩ (.bool (!s3))).drew = V2 := ⟨_, rfl⟩
    have gT : V2.heap[V.heap.size]? = some (.cells #[.int .i64 r1, .int .i64 r2, .bool (!s3)] 23 (0, 0)) := by rw [← hV2]; exact set3 dT _ _ _
    have gk : ∀ b, b ≠ V.heap.size → V2.heap[b]? = V1.heap[b]? := fun b hb => by rw [← hV2]; exact far3 hb _ _ _
    have gz : V2.heap.size = V.heap.size + 1 := by rw [← hV2, ← hz1]; simp [World.setCell, World.drew]
    have gS : StepR n0 8 W1 V2 := ⟨by rw [← hV2]; exact dS.os, by rw [← hV2]; exact dS.tape, by rw [← hV2]; exact dS.output, by omega, fun b hb hr => (gk b (by omega)).trans (dS.block b hb hr)⟩
    have gQ : V2.heap[Q]? = some (.cells #[.int .i64 r1, .int .i64 r2, .bool r3] 23 (0, 0)) := (gk _ (by omega)).trans dQ
    have gV : ∀ b, b < V.heap.size → V2.heap[b]? = V.heap[b]? := fun b hb => (gk b (by omega)).trans (dk b hb)
    have hVz : n0 + 8 ≤ V.heap.size := by omega
    rw [hV2]
    clear hV2 c0 c1 c2 o0 o1 o2 f0 f1 f2 dT dQ d1 dk dS gk hz1
    have cQ0 := blk_cell gQ 0
    have cQ1 := blk_cell gQ 1
    have cQ2 := blk_cell gQ 2
    have cT0 := blk_cell gT 0
    have cT1 := blk_cell gT 1
    have cT2 := blk_cell gT 2
    have c5 := blk_cell ((gV _ (by omega)).trans b0) 0
    simp only [List.getElem?_toArray, List.getElem?_cons_zero, List.getElem?_cons_succ] at cQ0 cQ1 cQ2 cT0 cT1 cT2 c5
    have hlast : ∀ X : World, X.heap[n0 + 1]? = some (.cells #[.int .i64 s1, .int .i64 s2, .bool s3] t1 (0, 0)) → X.cell? ⟨n0 + 1, 0, none⟩ = some (.int .i64 s1) ∧ X.cell? ⟨n0 + 1, 1, none⟩ = some (.int .i64 s2) ∧ X.cell? ⟨n0 + 1, 2, none⟩ = some (.bool s3) ∧ X.frozen? ⟨n0 + 1, 0, none⟩ = false ∧ X.frozen? ⟨n0 + 1, 1, none⟩ = false ∧ X.frozen? ⟨n0 + 1, 2, none⟩ = false := fun X h => ⟨by rw [blk_cell h 0]; rfl, by rw [blk_cell h 1]; rfl, by rw [blk_cell h 2]; rfl, blk_frozen h 0, blk_frozen h 1, blk_frozen h 2⟩
    by_cases ht : tnB (p1, p2, p3) l rise fall k = true
    · obtain ⟨g1, g2, g3⟩ := tnL_get (p1, p2, p3) l rise fall k l.length hk ht
      rw [hT] at g2
      rw [hr] at g1
      have e3 : r3 = !s3 := by
        unfold tnB at ht
        rw [hr, hs] at ht
        cases r3 <;> cases s3 <;> simp_all
      subst e3
      obtain ⟨fn, tm, assign, body, hy, hR2⟩ := hY W1.heap.size _ V2 g2 (hS _ W1 V2 g2 q2 gS (by omega))
      simp only [tnE, g1] at hy
      have IX := Lib.hid (And.intro hlast gV)
      clear hlast gV hS hY
      gi_wp2
      refine ⟨fun h => by simp [Fence.wide, Fence.inRound] at h, ?_⟩
      refine (roundIn_in hR2).mono ?_
      rintro e W3 ⟨hk3, (⟨rfl, hJ3⟩ | ⟨rfl, hJx3⟩)⟩
      · have kk : ∀ b, n0 ≤ b → b < n0 + 8 → W3.heap[b]? = V.heap[b]? := fun b h1 h2 => (hk3 b (.inl ⟨h1, h2⟩)).trans (IX.out.2 b (by omega))
        have wQ := (hk3 Q (.inr ⟨q4, by omega⟩)).trans gQ
        have w1 := (kk _ (by omega) (by omega)).trans b1
        have hQ3 := (Array.getElem?_eq_some_iff.1 wQ).1
        obtain ⟨l0, l1, l2, l3, l4, l5⟩ := IX.out.1 W3 w1
        have wQ0 := blk_cell wQ 0
        have wQ1 := blk_cell wQ 1
        have wQ2 := blk_cell wQ 2
        simp only [List.getElem?_toArray, List.getElem?_cons_zero, List.getElem?_cons_succ] at wQ0 wQ1 wQ2
        gi_wp2
        refine ⟨fun j hj => ?_, ⟨?_, ⟨t1, ?_⟩, ?_, ?_, ?_, ?_⟩, W3, by rw [g3]; exact hJ3, ?_, ?_⟩
        · exact (far3 (by omega) _ _ _).trans (kk j (by omega) (by omega))
        · exact (far3 (by omega) _ _ _).trans ((kk _ (by omega) (by omega)).trans b0)
        · exact set3 w1 _ _ _
        · exact (far3 (by omega) _ _ _).trans ((kk _ (by omega) (by omega)).trans b2)
        · exact (far3 (by omega) _ _ _).trans ((kk _ (by omega) (by omega)).trans b3)
        · exact (far3 (by omega) _ _ _).trans ((kk _ (by omega) (by omega)).trans b4)
        · exact (far3 (by omega) _ _ _).trans ((kk _ (by omega) (by omega)).trans b5)
        · exact ⟨rfl, rfl, rfl, by simp [World.setCell], fun b hb hr => far3 (by omega) _ _ _⟩
        · simp [World.setCell]; omega
      · have kk : ∀ b, n0 ≤ b → b < n0 + 8 → W3.heap[b]? = V.heap[b]? := fun b h1 h2 => (hk3 b (.inl ⟨h1, h2⟩)).trans (IX.out.2 b (by omega))
        gi_wp2
        exact ⟨fun j hj => kk j (by omega) (by omega), rfl, _, W3, g2, hJx3, .of_below (Below.refl _ _)⟩
    · have ht0 : tnB (p1, p2, p3) l rise fall k = false := by simpa using ht
      have g3 := tnL_skip (p1, p2, p3) l rise fall k ht0
      have e3 : r3 = s3 := by
        unfold tnB at ht0
        rw [hr, hs] at ht0
        cases r3 <;> cases s3 <;> simp_all
      subst e3
      have kk : ∀ b, n0 ≤ b → b < n0 + 8 → V2.heap[b]? = V.heap[b]? := fun b h1 h2 => gV b (by omega)
      have w1 := (kk _ (by omega) (by omega)).trans b1
      obtain ⟨l0, l1, l2, l3, l4, l5⟩ := hlast V2 w1
      have IX := Lib.hid (And.intro hlast gV)
      clear hlast gV hS hY hB hOut IM
      cases r3
      · gi_wp2
        refine ⟨fun _ h => (by cases h), ?_⟩
        gi_wp2
        refine ⟨fun j hj => ?_, ⟨?_, ⟨t1, ?_⟩, ?_, ?_, ?_, ?_⟩, W1, by rw [g3]; exact q2, ?_, ?_⟩
        · exact (far3 (by omega) _ _ _).trans (kk j (by omega) (by omega))
        · exact (far3 (by omega) _ _ _).trans ((kk _ (by omega) (by omega)).trans b0)
        · exact set3 w1 _ _ _
        · exact (far3 (by omega) _ _ _).trans ((kk _ (by omega) (by omega)).trans b2)
        · exact (far3 (by omega) _ _ _).trans ((kk _ (by omega) (by omega)).trans b3)
        · exact (far3 (by omega) _ _ _).trans ((kk _ (by omega) (by omega)).trans b4)
        · exact (far3 (by omega) _ _ _).trans ((kk _ (by omega) (by omega)).trans b5)
        · exact stepR_trans gS ⟨rfl, rfl, rfl, by simp [World.setCell], fun b hb hr => far3 (by omega) _ _ _⟩
        · simp [World.setCell]; omega
      · gi_wp2
        refine ⟨fun _ h => (by cases h), ?_⟩
        gi_wp2
        refine ⟨fun j hj => ?_, ⟨?_, ⟨t1, ?_⟩, ?_, ?_, ?_, ?_⟩, W1, by rw [g3]; exact q2, ?_, ?_⟩
        · exact (far3 (by omega) _ _ _).trans (kk j (by omega) (by omega))
        · exact (far3 (by omega) _ _ _).trans ((kk _ (by omega) (by omega)).trans b0)
        · exact set3 w1 _ _ _
        · exact (far3 (by omega) _ _ _).trans ((kk _ (by omega) (by omega)).trans b2)
        · exact (far3 (by omega) _ _ _).trans ((kk _ (by omega) (by omega)).trans b3)
        · exact (far3 (by omega) _ _ _).trans ((kk _ (by omega) (by omega)).trans b4)
        · exact (far3 (by omega) _ _ _).trans ((kk _ (by omega) (by omega)).trans b5)
        · exact stepR_trans gS ⟨rfl, rfl, rfl, by simp [World.setCell], fun b hb hr => far3 (by omega) _ _ _⟩
        · simp [World.setCell]; omega
  case left =>
    rintro c k V V2 h hs
    rw [hs.2 (by omega)]
    exact h
  case done =>
    rintro V V2 o' ⟨h1, W1, j1, j2, j3⟩ hs ⟨r, hr⟩ hd
    obtain rfl := hs.2 (by omega)
    rw [hT] at j1
    have e1 : StepR n0 8 W1 (V2.putObj (x.heap.size + 1) o') := stepR_put j2 _ _ (by omega) (by omega)
    obtain ⟨V3, hV3⟩ : ∃ V3, V2.putObj (x.heap.size + 1) o' = V3 := ⟨_, rfl⟩
    rw [hV3] at hd e1 ⊢
    clear hr hs h1 j2 hV3
    gi_wp2
    refine ⟨by simp, .inl ⟨_, _, rfl, run_takeDeferred hd, ?_⟩⟩
    refine ⟨_, results_none rfl _ _ _, ?_⟩
    rw [hT, hn0]
    exact ⟨⟨_, rfl⟩, .inl ⟨W1, j1, stepR_put e1 _ _ (by omega) (by omega)⟩⟩
  case stop =>
    rintro c k V hk ⟨rfl, j, W1, h1, h2, h3⟩ hd
    gi_wp2
    refine ⟨by simp, .inl ⟨_, _, rfl, run_takeDeferred hd, ?_⟩⟩
    refine ⟨_, results_none rfl _ _ _, ?_⟩
    rw [hT, hn0]
    exact ⟨⟨_, rfl⟩, .inr ⟨j, W1, h1, h2, stepR_put h3 _ _ (by omega) (by omega)⟩⟩
end Go.Proofs.Ytkifbcjmmkbilaa.Tn
