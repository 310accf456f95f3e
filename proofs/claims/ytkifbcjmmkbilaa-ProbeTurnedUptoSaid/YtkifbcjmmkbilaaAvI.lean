/- Literals, appends, and the interpreter's step, whole. -/
import Derived.Test.YtkifbcjmmkbilaaAvH
set_option linter.unusedVariables false
set_option linter.unusedSimpArgs false
namespace Go.Proofs.Ytkifbcjmmkbilaa.Av
open Go Go.RowKit
variable {P : Program}
section
variable {S : Sto} {H : List Blk} {pl : Pl} {A : Nat → Prop} {ds : List Deferred} {G : World → Prop} {B : Nat} {w0 w : World} {C : Ctx}

theorem foldl_lay (off : Nat) : ∀ (v : List Value) (k : Nat) (z : Array Value), off + k + v.length ≤ z.size →
    ((v.zipIdx k).foldl (fun cs (x : Value × Nat) => cs.setIfInBounds (off + x.2) x.1) z).toList = z.toList.take (off + k) ++ v ++ z.toList.drop (off + k + v.length)
  | [], k, z, h => by simp
  | c :: v, k, z, h => by
    simp only [List.length_cons] at h
    rw [List.zipIdx_cons, List.foldl_cons, foldl_lay off v (k + 1) _ (by simp; omega)]
    simp only [Array.toList_setIfInBounds, List.length_cons]
    have hlen : off + k < z.toList.length := by simp; omega
    rw [show off + (k + 1) = off + k + 1 by omega, List.take_succ_eq_append_getElem (by simp; omega), List.take_set_of_le (by omega)]
    simp only [List.getElem_set_self, List.append_assoc, List.singleton_append]
    rw [List.drop_set_of_lt (by omega), show off + k + 1 + v.length = off + k + (v.length + 1) by omega]

/-- Numbered parts, here and there. -/
def Ps (R : AV → Value → Prop) : List (Nat × AV) → List (Nat × Value) → Prop
  | [], [] => True
  | (i, x) :: r, (j, u) :: s => i = j ∧ R x u ∧ Ps R r s
  | _, _ => False

theorem zfix_len : ∀ (zs xs : List AV), (zfix zs xs).length = xs.length
  | zs, [] => by cases zs <;> rfl
  | [], x :: s => rfl
  | z :: r, x :: s => by simp [zfix, zfix_len r s]
theorem zfix_get : ∀ (zs xs : List AV) (j : Nat) (y : AV), (zfix zs xs)[j]? = some y → ∃ x, xs[j]? = some x ∧ (y = x ∨ (x = .v (.slice none 0 0) ∧ ∃ k, y = .z true (k + 1)))
  | zs, [], j, y, h => by cases zs <;> simp [zfix] at h
  | [], x :: s, j, y, h => ⟨y, h, .inl rfl⟩
  | z :: r, x :: s, 0, y, h => by
    simp only [zfix, List.getElem?_cons_zero, Option.some.injEq] at h
    refine ⟨x, rfl, ?_⟩
    subst h
    split
    · exact .inr ⟨rfl, _, rfl⟩
    · exact .inl rfl
  | z :: r, x :: s, j + 1, y, h => by
    simp only [zfix, List.getElem?_cons_succ] at h
    obtain ⟨x', h1, h2⟩ := zfix_get r s j y h
    exact ⟨x', h1, h2⟩
theorem zfix_rep (zs : List AV) {xs : List AV} {us : List Value} (h : Cs (Rep S H pl) xs us) : Cs (Rep S H pl) (zfix zs xs) us := by
  refine ⟨by rw [zfix_len]; exact h.1, fun j y u hy hu => ?_⟩
  obtain ⟨x, hx, rfl | ⟨rfl, k, rfl⟩⟩ := zfix_get zs xs j y hy
  · exact h.2 j y u hx hu
  · have := h.2 j _ u hx hu
    cases this with
    | val _ _ r => cases r with
      | v => exact .val _ _ (.znil _ _)
theorem afill_sound {place : Nat → Option (Nat × Nat)} : ∀ (ps : List (Nat × AV)) (vs : List (Nat × Value)) (cs cs' : List AV) (us : List Value), Ps (Rep S H pl) ps vs → Cs (Rep S H pl) cs us → (∀ u ∈ us, u.oneCell' = true) → afill place cs ps = some cs' →
    ∃ us', Instr.fill place us.toArray vs = some us'.toArray ∧ Cs (Rep S H pl) cs' us' ∧ (∀ u ∈ us', u.oneCell' = true) ∧ cs'.length = cs.length
  | [], [], cs, cs', us, _, hc, h1, e => by
    simp [afill] at e
    subst e
    exact ⟨us, rfl, hc, h1, rfl⟩
  | [], _ :: _, _, _, _, h, _, _, _ => h.elim
  | _ :: _, [], _, _, _, h, _, _, _ => h.elim
  | (i, x) :: ps, (j, u) :: vs, cs, cs', us, h, hc, h1, e => by
    obtain ⟨rfl, hx, hr⟩ := h
    simp only [afill] at e
    cases hp : place i with
    | none => simp [hp] at e
    | some os =>
      obtain ⟨off, size⟩ := os
      simp only [hp] at e
      split at e
      · rename_i hb
        obtain ⟨hsz, hle, hat⟩ := hb
        obtain ⟨hcu, hone, hcs⟩ := cells_rep hx hat
        have hus := hcs _ rfl
        have hsp := hc.splice (zfix_rep (cs.drop off) hcu) off
        have hone' : ∀ z ∈ us.take off ++ u.cells.toList ++ us.drop (off + u.cells.toList.length), z.oneCell' = true := by
          intro z hz
          rw [List.append_assoc] at hz
          rcases List.mem_append.1 hz with hz | hz
          · exact h1 z (List.mem_of_mem_take hz)
          · rcases List.mem_append.1 hz with hz | hz
            · exact hone z hz
            · exact h1 z (List.mem_of_mem_drop hz)
        obtain ⟨us', h2, h3, h4, h5⟩ := afill_sound ps vs _ cs' _ hr hsp hone' e
        refine ⟨us', ?_, h3, h4, by rw [h5, splice_length (by rw [zfix_len]; omega)]⟩
        have hl := hc.1
        have hif : ¬ ((u.cells.size ≠ size || off + u.cells.size > us.toArray.size) = true) := by
          simp
          omega
        simp only [Instr.fill, hp, if_neg hif]
        have hf := foldl_lay off u.cells.toList 0 us.toArray (by simp; omega)
        simp only [Nat.add_zero] at hf
        have hf' : u.cells.zipIdx.foldl (fun cs (x : Value × Nat) => cs.setIfInBounds (off + x.2) x.1) us.toArray = (us.take off ++ u.cells.toList ++ us.drop (off + u.cells.toList.length)).toArray := by
          apply Array.ext'
          rw [← Array.foldl_toList, Array.toList_zipIdx, hf]
        rw [hf']
        exact h2
      · cases e

theorem parts_rep {tmps : List AV} {a : Act} (ht : TRel ds S H pl tmps a) : ∀ ps : List (Nat × Operand), Ps (Rep S H pl) (ps.map fun p => (p.1, evA tmps p.2)) (ps.map fun p => (p.1, a.eval p.2))
  | [] => trivial
  | p :: ps => ⟨rfl, ht.ev p.2, parts_rep ht ps⟩

theorem places_ok : ∀ (flds : List Field) (fs : List (Nat × Nat × Bool)), flds.length = fs.length →
    (∀ (j : Nat) f o s (g : Bool), flds[j]? = some f → fs[j]? = some (o, s, g) → f.offset = o ∧ ∃ i', P.info? f.type = some i' ∧ i'.size = s) →
    flds.mapM (fun f => (P.info? f.type).map fun i => (f.offset, i.size)) = some (fs.map fun f => (f.1, f.2.1))
  | [], [], _, _ => rfl
  | [], _ :: _, h, _ => by simp at h
  | _ :: _, [], h, _ => by simp at h
  | f :: flds, (o, s, g) :: fs, h, k => by
    obtain ⟨h1, i', h2, h3⟩ := k 0 f o s g rfl rfl
    have ih := places_ok flds fs (by simpa using h) fun j f o s g hf hg => k (j + 1) f o s g (by simpa using hf) (by simpa using hg)
    rw [List.mapM_cons, h2, ih]
    simp [h1, h3]

theorem op_build {tmps : List AV} {a : Act} {o : Oper} {t sz : Nat} {parts : Array (Nat × Operand)} {fs : List (Nat × Nat × Bool)} {zs : List Value} {cs : List AV} (hT : TdOk P C) (ht : TRel ds S H pl tmps a) (h : WRel A G B w0 S H pl w) (ho : o.op = .build t parts)
    (htd : C.td t = .agg sz fs zs) (e : afill (fun i => (fs[i]?).map fun f => (f.1, f.2.1)) (zAV (C.zz t) zs) (parts.toList.map fun p => (p.1, evA tmps p.2)) = some cs) : OpW P A G B w0 o a S H pl w (.agg cs) H := by
  obtain ⟨flds, i, hu, hi, hs, hz, hl, hpos, h1, hfl, hfs⟩ := hT.agg t _ _ _ htd
  obtain ⟨us, h2, h3, h4, h5⟩ := afill_sound _ _ _ _ _ (parts_rep ht parts.toList) ((zAV_rep (S := S) (C.zz t) zs).mono fun x u r => .val _ _ r) h1 e
  have hpl := places_ok (P := P) flds.toList fs hfl fun j f o s g hf hg => by
    obtain ⟨ha, _, _, hb, _⟩ := hfs j f o s g (by simpa using hf) hg
    exact ⟨ha, hb⟩
  have hbt : P.built t (parts.toList.map fun p => (p.1, a.eval p.2)) = some us.toArray := by
    unfold Program.built
    rw [hi, hu]
    simp only [hz, hpl]
    rw [← h2]
    congr 1
    funext j
    simp
  have hr := run_build (P := P) w t (parts.toList.map fun p => (p.1, a.eval p.2)).toArray us.toArray (by simpa using hbt)
  refine .still h (u := .agg us.toArray) ?_ (.agg _ us h3.1 h3.2)
  have hm : parts.map (fun p => (p.1, a.eval p.2)) = (parts.toList.map fun p => (p.1, a.eval p.2)).toArray := by
    apply Array.ext'
    simp
  simp only [execOp, ho, Sem.run_bind, hm, hr, Result.andThen_ok, Sem.run_pure]

theorem chunks_flatten (sz : Nat) : ∀ (n : Nat) (cs : List AV), cs.length = n * sz → (chunks sz n cs).flatten = cs ∧ (chunks sz n cs).length = n ∧ ∀ c ∈ chunks sz n cs, c.length = sz
  | 0, cs, h => by
    obtain rfl := List.eq_nil_of_length_eq_zero (by simpa using h)
    simp [chunks]
  | n + 1, cs, h => by
    rw [Nat.add_mul] at h
    obtain ⟨h1, h2, h3⟩ := chunks_flatten sz n (cs.drop sz) (by simp; omega)
    refine ⟨by simp [chunks, h1], by simp [chunks, h2], fun c hc => ?_⟩
    simp only [chunks, List.mem_cons] at hc
    rcases hc with rfl | hc
    · simp; omega
    · exact h3 c hc
theorem hbs_chunks (k sz : Nat) : ∀ (n : Nat) (cs : List AV), AV.hbs k cs = true → ∀ c ∈ chunks sz n cs, AV.hbs k c = true
  | 0, cs, h => by simp [chunks]
  | n + 1, cs, h => by
    intro c hc
    simp only [chunks, List.mem_cons] at hc
    rcases hc with rfl | hc
    · exact hbs_take k sz cs h
    · exact hbs_chunks k sz n _ (hbs_drop k sz cs h) c hc

theorem zeros_list (sz : Nat) (z : Array Value) (hz : z.size = sz) (h0 : 0 < sz) : ∀ n, (List.range (n * sz)).map (fun i => z[i % z.size]!) = (List.replicate n z.toList).flatten
  | 0 => by simp
  | n + 1 => by
    rw [Nat.add_mul, Nat.one_mul, Nat.add_comm, List.range_add, List.map_append, List.replicate_succ, List.flatten_cons]
    congr 1
    · apply List.ext_getElem?
      intro j
      by_cases hj : j < sz
      · have : j < z.size := by omega
        simp [hj, Nat.mod_eq_of_lt this, this]
      · simp [hj, List.getElem?_eq_none, hz, Nat.le_of_not_lt hj]
    · rw [List.map_map, ← zeros_list sz z hz h0 n]
      apply List.map_congr_left
      intro j _
      simp [hz]

theorem rep_flatten {R : AV → Value → Prop} {cs : List AV} {us : List Value} (h : Cs R cs us) : ∀ n, Cs R (List.replicate n cs).flatten (List.replicate n us).flatten
  | 0 => Cs.nil
  | n + 1 => by rw [List.replicate_succ, List.replicate_succ, List.flatten_cons, List.flatten_cons]; exact Cs.append h (rep_flatten h n)
theorem map_replicate_flatten (zs : List Value) : ∀ n, (List.replicate n (zs.map AV.v)).flatten = ((List.replicate n zs).flatten).map AV.v
  | 0 => rfl
  | n + 1 => by rw [List.replicate_succ, List.replicate_succ, List.flatten_cons, List.flatten_cons, List.map_append, map_replicate_flatten zs n]

theorem op_buildSlice {tmps : List AV} {a : Act} {o : Oper} {t n e sz by_ : Nat} {parts : Array (Nat × Operand)} {zs : List Value} {cs : List AV} (hG : ∀ w', Below B w0 w' → G w') (hT : TdOk P C) (ht : TRel ds S H pl tmps a) (h : WRel A G B w0 S H pl w) (ho : o.op = .buildSlice t n parts)
    (htd : C.td t = .sl e sz by_) (hzs : (C.td e).zero = some zs) (hn : 0 < n * sz ∧ n * sz ≤ 16777216)
    (ha : afill (fun i => some (i * sz, sz)) (List.replicate n (zAV (C.zz e) zs)).flatten (parts.toList.map fun p => (p.1, evA tmps p.2)) = some cs)
    {cs' : List AV} {H1 : List Blk} (hf : ∀ us, Cs (Rep S H pl) cs us → ∃ S', Ext B S H pl S' H1 pl ∧ WRel A G B w0 S' H1 pl w ∧ Cs (Rep S' H1 pl) cs' us) :
    OpW P A G B w0 o a S H pl w (.own H1.length 0) (H1 ++ [.grow e sz 0 (AV.hbs 0 cs') (chunks sz n cs')]) := by
  obtain ⟨hu, h0, ⟨ie, z, hie, hsz, hby, hz, hzc⟩, _⟩ := hT.sl t e sz by_ htd
  obtain ⟨i', z', hi', hz', hcz, hs', h1z⟩ := zero_info hT hzs
  rw [hie] at hi'
  obtain rfl := Option.some.inj hi'
  rw [hz] at hz'
  obtain rfl := Option.some.inj hz'
  have hzl : zs.length = sz := by rw [← hs', hsz]
  have hzero : ((Array.range (n * sz)).map (z.cells[· % z.cells.size]!)) = ((List.replicate n zs).flatten).toArray := by
    apply Array.ext'
    have := zeros_list sz z.cells hzc h0 n
    rw [hcz] at this ⊢
    simpa using this
  obtain ⟨us, h2, h3, h4, h5⟩ := afill_sound _ _ _ _ _ (parts_rep ht parts.toList) ((rep_flatten (zAV_rep (S := S) (C.zz e) zs) n).mono fun x u r => .val _ _ r) (fun u hu => by
    obtain ⟨c, hc, huc⟩ := List.mem_flatten.1 hu
    exact h1z u (by rw [(List.mem_replicate.1 hc).2] at huc; exact huc)) ha
  obtain ⟨S1, hE1, hW1, h3'⟩ := hf us h3
  have hlen : cs'.length = n * sz := by
    rw [← h3'.1, h3.1, h5]
    simp [zAV_len, hzl]
  have hm : parts.map (fun p => (p.1, a.eval p.2)) = (parts.toList.map fun p => (p.1, a.eval p.2)).toArray := by
    apply Array.ext'
    simp
  have hr := run_buildSlice (P := P) w t e n (parts.map fun p => (p.1, a.eval p.2)) us.toArray ie z hu hie hz (by rw [hsz]; omega) (by rw [hsz]; omega) (by
    rw [hm, hsz, hzero]
    exact h2)
  obtain ⟨hc1, hc2, hc3⟩ := chunks_flatten sz n cs' hlen
  have hn0 : n ≤ maxLen := by
    have : n * 1 ≤ n * sz := Nat.mul_le_mul_left _ h0
    unfold maxLen
    omega
  refine .run (u := .slice (some ⟨w.heap.size, 0, none⟩) n n) (w' := w.alloc (.cells us.toArray e)) ?_ (hE1.trans push_ext) (hW1.push hG ((Below.refl _ _).alloc (Nat.le_refl _) _) (p := some (w.heap.size, n)) ⟨h0, hc3, by simp, fun hb c hc => hbs_chunks 0 sz n cs' hb c hc, us, ⟨?_, .inr ⟨w.heap.size, n, us.toArray, by rw [hc2]; rfl, Nat.le_refl _, heap_alloc_new w _, by rw [hc2]; exact Nat.le_refl _, hn0, ?_, ?_⟩⟩, by rw [hc1]; exact h3', h4⟩) (.own _ _ _ (by simp) rfl fun e' sz' v bv es q => ?_)
  · simp only [execOp, ho, Sem.run_bind, hr, Result.andThen_ok, Sem.run_pure]
  · rw [hc2, h3'.1, hlen]
  · simp [h3'.1, hlen]
  · rw [hc2, List.toList_toArray, List.take_of_length_le (by rw [h3'.1, hlen]; exact Nat.le_refl _)]
  · simp at q
    obtain ⟨rfl, rfl, rfl, rfl, rfl⟩ := q
    rw [hc2]
    simp [pushPl, slv]

theorem op_buildNil {tmps : List AV} {a : Act} {o : Oper} {t e sz by_ : Nat} {parts : Array (Nat × Operand)} (hG : ∀ w', Below B w0 w' → G w') (hT : TdOk P C) (ht : TRel ds S H pl tmps a) (h : WRel A G B w0 S H pl w) (ho : o.op = .buildSlice t 0 parts) (hp : parts.size = 0)
    (htd : C.td t = .sl e sz by_) : OpW P A G B w0 o a S H pl w (.own H.length 0) (H ++ [.grow e sz 0 true []]) := by
  obtain ⟨hu, h0, ⟨ie, z, hie, hsz, hby, hz, hzc⟩, _⟩ := hT.sl t e sz by_ htd
  have hp' : parts = #[] := Array.eq_empty_of_size_eq_zero hp
  subst hp'
  refine .run (u := .slice (some ⟨w.heap.size, 0, none⟩) 0 0) (w' := w.alloc (.cells #[] e)) ?_ push_ext (h.push hG ((Below.refl _ _).alloc (Nat.le_refl _) _) (p := some (w.heap.size, 0)) ⟨h0, by simp, by simp, by simp, [], ⟨by simp, .inr ⟨w.heap.size, 0, #[], rfl, Nat.le_refl _, heap_alloc_new w _, Nat.le_refl _, by simp [maxLen], by simp, by simp⟩⟩, Cs.nil, by simp⟩) (.own _ _ _ (by simp) rfl fun e' sz' v bv es q => ?_)
  · simp [execOp, ho, Instr.buildSlice, run_underlying hu, sizeOf, typeInfo, hie, Instr.fill, newRow, Sem.run_bind]
    congr 2
    exact Array.eq_empty_of_size_eq_zero (by simp)
  · simp at q
    obtain ⟨rfl, rfl, rfl, rfl, rfl⟩ := q
    simp [pushPl, slv]

/-- An append, with where the row lies behind it. -/
theorem append_run {t e ty : TypeId} {i : TypeInfo} {z : Value} {sz by_ : Nat} (hu : P.underlying t = some (.slice e)) (hi : P.info? e = some i) (hz : i.zero = some z) (hs : i.size = sz) (hby : i.bytes = by_) (hzs : z.cells.size = sz) (h0 : 0 < sz)
    {p : Option (Nat × Nat)} {n : Nat} {xs : List Value} (ho : w.ownsRow B e sz (slv p n) n xs) (hB : B ≤ w.heap.size) {x : Value} {m : Nat} {news : List Value}
    (hx : (x = .slice none 0 0 ∧ m = 0 ∧ news = []) ∨ ∃ ad c, x = .slice (some ad) m c ∧ ∀ (j : Nat) u, news[j]? = some u → w.cell? (ad.add j) = some u) (hl : news.length = m * sz) (h1 : ∀ u ∈ news, u.oneCell' = true)
    (hb : (n + m) * by_ ≤ 140737488355328) (hm : n + m ≤ maxLen) :
    ∃ p' w', (Builtin.append_ #[t, t] ty #[slv p n, x]).run P w = .ok (slv p' (n + m)) w' ∧ w'.ownsRow B e sz (slv p' (n + m)) (n + m) (xs ++ news) ∧ w.grownBy w' (p.map (·.1)) ∧
      (∀ b c, p' = some (b, c) → w.heap.size ≤ b ∨ ∃ c', p = some (b, c')) ∧ (p' = none → n + m = 0) := by
  subst hs
  subst hby
  have hlen : (xs ++ news).length = (n + m) * i.size := by rw [List.length_append, ho.1, hl, Nat.add_mul]
  rcases hx with ⟨rfl, rfl, rfl⟩ | ⟨ad, c, rfl, hnews⟩
  · refine ⟨p, w, run_append_owned_none (P := P) w B t ty e i i.size hu hi _ n xs ho, by simpa using ho, ⟨rfl, rfl, rfl, Nat.le_refl _, fun _ _ _ => rfl⟩, fun b c' hp => .inr ⟨c', hp⟩, fun hp => ?_⟩
    subst hp
    rcases ho.2 with ⟨_, hn⟩ | ⟨g, cap, cur, hq, _⟩
    · omega
    · simp [slv] at hq
  · cases p with
    | none =>
      have hn : n = 0 := by
        rcases ho.2 with ⟨_, hn⟩ | ⟨g, cap, cur, hq, _⟩
        · exact hn
        · simp [slv] at hq
      subst hn
      have hxs : xs = [] := List.eq_nil_of_length_eq_zero (by simpa using ho.1)
      subst hxs
      by_cases hm0 : m = 0
      · subst hm0
        have hnn : news = [] := List.eq_nil_of_length_eq_zero (by simpa using hl)
        subst hnn
        refine ⟨none, w, ?_, ho, ⟨rfl, rfl, rfl, Nat.le_refl _, fun _ _ _ => rfl⟩, by simp, by simp⟩
        simp [slv, Builtin.append_, run_underlying hu, sizeOf, typeInfo, hi, Builtin.lenOf, Builtin.firstCells, loadCells, loadCellsFrom]
      · have hr := run_append_nil (P := P) w t ty e i z hu hi hz ad m c news hl hnews (by omega) (by unfold maxLen at hm; omega) (by simp only [Nat.zero_add] at hb; omega)
        have hge := grownCap_ge w m 0 e
        have hcm : grownCap w m 0 e ≤ maxLen := grownCap_le_maxLen w m 0 e (by omega)
        refine ⟨some (w.heap.size, grownCap w m 0 e), _, by simpa [slv] using hr, ⟨hlen, .inr ⟨w.heap.size, grownCap w m 0 e, _, by simp [slv], hB, heap_alloc_new w.drew _, by omega, hcm, ?_, ?_⟩⟩, ⟨rfl, rfl, rfl, by simp, fun k hk _ => heap_alloc_old w.drew _ hk⟩, fun b c' hp => .inl (by cases hp; exact Nat.le_refl _), by simp⟩
        · simp only [Array.size_append, List.size_toArray, size_zeroCells, hzs, hl, ← Nat.add_mul]
          congr 1
          omega
        · simp only [Array.toList_append, List.nil_append, Nat.zero_add]
          rw [← hl]
          exact List.take_left
    | some bc =>
      obtain ⟨g, cap⟩ := bc
      rcases ho.2 with ⟨hq, _⟩ | ⟨g', cap', cur, hq, hBg, hg, hnc, hcm, hcs, htake⟩
      · simp [slv] at hq
      · simp [slv] at hq
        obtain ⟨rfl, rfl⟩ := hq
        by_cases hroom : n + m ≤ cap
        · have hfit : n * i.size + news.length ≤ cur.size := by rw [hl, hcs, ← Nat.add_mul]; exact Nat.mul_le_mul_right _ hroom
          have hr := run_append_room (P := P) w t ty e i hu hi g n cap cur hg ad m c news hl hnews h1 hroom hfit
          refine ⟨some (g, cap), _, hr, ⟨hlen, .inr ⟨g, cap, _, rfl, hBg, setRow_heap w g cur _ e _ hg, hroom, hcm, ?_, ?_⟩⟩, ⟨rfl, rfl, rfl, by simp, fun k _ hk => setRow_other w g k _ (fun e => hk (by simp [e]))⟩, fun b c' hp => .inr ⟨c', hp⟩, by simp⟩
          · simp only [List.size_toArray, List.length_append, List.length_take, List.length_drop, Array.length_toList]
            omega
          · rw [htake, ← hlen]
            exact List.take_left
        · have holds : ∀ (j : Nat) u, xs[j]? = some u → w.cell? ((⟨g, 0, none⟩ : Addr).add j) = some u := ho.cells (g := g) rfl
          have hr := run_append_grow (P := P) w t ty e i z hu hi hz ⟨g, 0, none⟩ n cap xs ho.1 holds ad m c news hl hnews (by omega) (by unfold maxLen at hm; omega) (growslice_fits (by omega) hb)
          have hge := grownCap_ge w (n + m) cap e
          have hcm' : grownCap w (n + m) cap e ≤ maxLen := grownCap_le_maxLen w (n + m) cap e hm
          refine ⟨some (w.heap.size, grownCap w (n + m) cap e), _, hr, ⟨hlen, .inr ⟨w.heap.size, grownCap w (n + m) cap e, _, rfl, hB, heap_alloc_new w.drew _, hge, hcm', ?_, ?_⟩⟩, ⟨rfl, rfl, rfl, by simp, fun k hk _ => heap_alloc_old w.drew _ hk⟩, fun b c' hp => .inl (by cases hp; exact Nat.le_refl _), by simp⟩
          · simp only [Array.size_append, List.size_toArray, size_zeroCells, hzs, ho.1, hl, ← Nat.add_mul]
            congr 1
            omega
          · simp only [Array.toList_append, List.append_assoc]
            rw [← List.append_assoc, ← hlen]
            exact List.take_left

theorem lst_slice {sz n m : Nat} {get : Nat → List AV} {u : Value} (h : Rep S H pl (.lst sz n m get) u) : ∃ ad k c, u = .slice ad k c := by
  cases h with
  | val _ _ r => cases r with
    | nil => exact ⟨_, _, _, rfl⟩
    | lst _ _ _ _ ad cap f => exact ⟨_, _, _, rfl⟩
theorem z_inv {b : Bool} {sz : Nat} {u : Value} (h : Rep S H pl (.z b sz) u) : u = .slice none 0 0 ∨ b = false ∧ ∃ ad, u = .slice (some ad) 0 0 := by
  cases h with
  | val _ _ r => cases r with
    | znil => exact .inl rfl
    | zsome _ ad => exact .inr ⟨rfl, ad, rfl⟩
theorem z_slice {b : Bool} {sz : Nat} {u : Value} (h : Rep S H pl (.z b sz) u) : ∃ ad k c, u = .slice ad k c := by
  cases h with
  | val _ _ r => cases r with
    | znil => exact ⟨_, _, _, rfl⟩
    | zsome _ ad => exact ⟨_, _, _, rfl⟩
theorem own_slice {id ver e sz v : Nat} {bv : Bool} {es : List (List AV)} {u : Value} (h : Rep S H pl (.own id ver) u) (hH : H[id]? = some (.grow e sz v bv es)) (hv : ver = v) : ∃ ad k c, u = .slice ad k c := by
  cases h with
  | val _ _ r => cases r
  | own _ _ _ _ _ k =>
    have := (k _ _ _ _ _ hH).2 hv.symm
    subst this
    cases pl id with
    | none => exact ⟨_, _, _, rfl⟩
    | some p => exact ⟨_, _, _, rfl⟩
theorem cut_op {tmps : List AV} {a : Act} {o : Oper} {t : Nat} {x : Operand} {lo hi mx : Option Operand} {y : AV} (hT : TdOk P C) (ht : TRel ds S H pl tmps a) (h : WRel A G B w0 S H pl w) (ho : o.op = .slice t x lo hi mx)
    (e : (match cutM (cutIs C.cu lo mx) (C.td t) (evA tmps x) (hi.map (evA tmps)) H with
      | some y => some y
      | none => sliceA (C.td t) (evA tmps x) (lo.map (evA tmps)) (hi.map (evA tmps)) (mx.map (evA tmps))) = some y) : OpW P A G B w0 o a S H pl w y H := by
  split at e
  · rename_i y' hy
    obtain rfl := Option.some.inj e
    unfold cutM at hy
    split at hy
    · rename_i hc
      have hlm : lo = none ∧ mx = none := by
        unfold cutIs at hc
        split at hc <;> first | exact ⟨rfl, rfl⟩ | cases hc
      obtain ⟨rfl, rfl⟩ := hlm
      obtain ⟨r, hr, hy2⟩ := cutO_sound hT h ht (ht.ev x) hy
      exact .still h (by simp [execOp, ho, hr]) hy2
    · cases hy
  · exact slice_op hT ht h ho e
theorem evOpQ_sound {tmps : List AV} {a : Act} {o : Oper} {x : AV} (hG : ∀ w', Below B w0 w' → G w') (hK : CtxOk P C G) (ht : TRel ds S H pl tmps a) (h : WRel A G B w0 S H pl w) (e : evOpQ C P tmps H o = some x) : OpW P A G B w0 o a S H pl w x H := by
  unfold evOpQ at e
  split at e
  · rename_i y ho
    obtain rfl := Option.some.inj e
    exact op_move ht h (.inl ho)
  · rename_i y ho
    obtain rfl := Option.some.inj e
    exact op_move ht h (.inr ho)
  · rename_i c y z ho
    split at e
    · rename_i t hc
      obtain rfl := Option.some.inj e
      exact op_pick ht h ho hc
    · cases e
  · rename_i t y ho
    exact op_load hK.td ht h ho e
  · -- nilCheck
    rename_i y ho
    have hy := ht.ev y
    split at e
    · rename_i k off hax
      split at e
      · rename_i cs hH
        obtain rfl := Option.some.inj e
        rw [hax] at hy
        cases hq : hy with
        | val _ _ r => cases r
        | ptr _ _ _ hi _ hp =>
          obtain ⟨b, c, hpl, hu⟩ := hp _ hH
          exact .still h (u := a.eval y) (by simp [execOp, ho, hu]) hy
      · cases e
    · rename_i cs hax
      obtain rfl := Option.some.inj e
      rw [hax] at hy
      have : ∃ ad, a.eval y = .pointer (some ad) := by
        generalize a.eval y = u at hy
        cases hy with
        | val _ _ r => cases r with | ept _ ad f => exact ⟨ad, rfl⟩
      obtain ⟨ad, hu⟩ := this
      exact .still h (u := a.eval y) (by simp [execOp, ho, hu]) hy
    · cases e
  · -- fieldAddr
    rename_i t y f ho
    split at e
    · rename_i sz fs zs htd
      split at e
      · rename_i off s g hf
        obtain ⟨r, hr, hy⟩ := field_sound (w := w) hK.td (ht.ev y) htd hf e
        exact .still h (by simp [execOp, ho, hr]) hy
      · cases e
    · cases e
  · -- field
    rename_i t y f ho
    split at e
    · rename_i sz fs zs htd
      split at e
      · rename_i off s g cs hf hax
        split at e
        · rename_i hle
          have hy := ht.ev y
          rw [hax] at hy
          obtain ⟨r, hr, hy⟩ := part_sound (w := w) hK.td hy htd hf hle e
          exact .still h (by simp [execOp, ho, hr]) hy
        · cases e
      · cases e
    · cases e
  · -- indexAddr
    rename_i t y i ho
    split at e
    · rename_i e' sz by' k n htd hi
      have hi' := ht.ev i
      rw [hi] at hi'
      obtain ⟨r, hr, hy⟩ := idx_sound (k := k) hK.td h htd (ht.ev y) e
      exact .still h (by simp [execOp, ho, hi'.v_inv, hr]) hy
    · cases e
  · -- slice
    rename_i t y lo hi mx ho
    split at e
    · rename_i hcut
      have hy := ht.ev y
      obtain ⟨k1, k2, rfl, rfl, rfl⟩ : ∃ k1 k2, lo = none ∧ hi = some (.const (.int k1 0)) ∧ mx = some (.const (.int k2 0)) := by
        unfold zeroCut at hcut
        split at hcut
        · exact ⟨_, _, rfl, rfl, rfl⟩
        · cases hcut
      unfold zeroA at e
      split at e
      case h_2 => cases e
      rename_i d' e' sz by' htd
      obtain ⟨hu, hs0, ⟨ti, z, hi', hs, _⟩, _⟩ := hK.td.sl t e' sz by' htd
      have hel : P.elem t = e' := by simp [Program.elem, hu]
      have hu' : P.underlying t = some (.slice (P.elem t)) := by rw [hel]; exact hu
      have hsz : (sizeOf (P.elem t)).run P w = .ok sz w := by rw [hel]; simp [sizeOf, typeInfo, hi', hs]
      have hrun : ∀ (ad : Option Addr) (n cap : Nat), (Instr.sliceAt t (.slice ad n cap) none (some (.int k1 0)) (some (.int k2 0))).run P w = .ok (sliced ad 0 0 0 sz) w := fun ad n cap => by
        rw [run_sliceAt_slice w t _ _ _ _ hu', run_slice_hm w t ad n cap hu' k1 k2 0 0 (by omega) (by omega) (by omega), hsz]
        simp [Result.andThen]
      have hz : ∀ (ad : Option Addr), RepV S (.z false sz) (sliced ad 0 0 0 sz) := fun ad => by
        cases ad with
        | none => simp [sliced]; exact .znil _ _
        | some ad => simp [sliced]; exact .zsome _ _
      have fin : ∀ {s : Nat}, s = sz → (∃ ad n cap, a.eval y = .slice ad n cap) → x = .z false sz → OpW P A G B w0 o a S H pl w x H := fun _ ⟨ad, n, cap, hu⟩ hx => by
        subst hx
        have hE : (execOp a.eval o).run P w = .ok (.value (sliced ad 0 0 0 sz)) w := by
          simp only [execOp, ho, Sem.run_bind, hu, Option.map_none, Option.map_some]
          have := hrun ad n cap
          simp only [Act.eval] at this ⊢
          rw [this]
          rfl
        exact .still h hE (.val _ _ (hz ad))
      split at e
      · rename_i s n m get hx
        split at e
        · rename_i hs'
          rw [hx] at hy
          exact fin hs' (lst_slice hy) (Option.some.inj e).symm
        · cases e
      · rename_i b s hx
        split at e
        · rename_i hs'
          rw [hx] at hy
          exact fin hs' (z_slice hy) (Option.some.inj e).symm
        · cases e
      · rename_i id ver hx
        split at e
        · rename_i e2 s v bv es hH
          split at e
          · rename_i hs'
            rw [hx] at hy
            exact fin hs'.2 (own_slice hy hH hs'.1) (Option.some.inj e).symm
          · cases e
        · cases e
      · cases e
    · exact cut_op hK.td ht h ho e
  · -- makeInterface
    rename_i t y ho
    split at e
    · rename_i hc
      obtain rfl := Option.some.inj e
      obtain ⟨d, hu, hd⟩ := hK.td.conc t hc
      have hrep : Rep S H pl (match AV.plain (evA tmps y) with | some u => AV.v (.iface t u) | none => .ifc t (evA tmps y)) (.iface t (a.eval y)) := by
        split
        · rename_i u hu'
          rw [plain_rep _ hu' (ht.ev y)]
          exact .val _ _ (.v _)
        · exact .ifc _ _ _ (ht.ev y)
      refine .still h (u := .iface t (a.eval y)) ?_ hrep
      have : (Instr.makeInterface t (a.eval y)).run P w = .ok (.iface t (a.eval y)) w := by
        unfold Instr.makeInterface
        rw [Sem.run_bind, run_underlying hu w]
        cases d <;> simp_all
      simp [execOp, ho, this]
    · cases e
  · -- makeFunc
    rename_i f first caps ho
    split at e
    · rename_i hz
      obtain rfl := Option.some.inj e
      have hcs := evs_args ht caps.toList
      refine .still h (u := .func (.func f) #[] (caps.toList.map a.eval).toArray) ?_ (.fn f _ _ hcs.1 hcs.2)
      have h1 : first = #[] := Array.eq_empty_of_size_eq_zero hz
      have h2 : (caps.toList.map a.eval).toArray = caps.map a.eval := by
        rw [← List.map_toArray, Array.toArray_toList]
      simp [execOp, ho, Instr.makeFunc, h1, h2]
    · cases e
  · -- extract
    rename_i y i ho
    have hy := ht.ev y
    split at e
    · rename_i vs hax
      rw [hax] at hy
      obtain ⟨us, hu, hc⟩ := hy.tup_inv
      obtain ⟨u, hu', hr⟩ := hc.get e
      exact .still h (u := u) (by simp [execOp, ho, hu, Instr.extract, hu']) hr
    · rename_i vs hax
      rw [hax] at hy
      have hu := hy.v_inv
      split at e
      · rename_i u hu'
        obtain rfl := Option.some.inj e
        exact .still h (u := u) (by simp [execOp, ho, hu, Instr.extract, hu']) (.val _ _ (.v _))
      · cases e
    · cases e
  · rename_i t y z t' ho
    split at e
    · rename_i r hr
      obtain rfl := Option.some.inj e
      exact eql_op hK ht h ho hr
    · split at e
      · rename_i hs
        obtain rfl := Option.some.inj e
        exact opS_op ht h ho hs
      · exact pureOp_sound ht h e (congr_bin ho)
  · rename_i t y z t' ho
    split at e
    · rename_i r hr
      obtain rfl := Option.some.inj e
      exact neq_op hK ht h ho hr
    · split at e
      · rename_i hs
        obtain rfl := Option.some.inj e
        exact opS_op ht h ho hs
      · exact pureOp_sound ht h e (congr_bin ho)
  · rename_i ho
    split at e
    · rename_i hs
      obtain rfl := Option.some.inj e
      exact opS_op ht h ho hs
    · exact pureOp_sound ht h e (congr_bin ho)
  · rename_i t parts ho
    split at e
    · rename_i sz fs zs htd
      split at e
      · rename_i cs hcs
        obtain rfl := Option.some.inj e
        exact op_build hK.td ht h ho htd hcs
      · cases e
    · cases e
  · rename_i ho
    exact pureOp_sound ht h e (congr_un ho)
  · -- index of a string
    rename_i t y i ho
    split at e
    · rename_i z s k n htd hax hi
      split at e
      · rename_i hb
        obtain rfl := Option.some.inj e
        have hy := ht.ev y
        have hi' := ht.ev i
        rw [hax] at hy
        rw [hi] at hi'
        obtain ⟨⟨d, hu, _, hk⟩, _⟩ := hK.td.one t _ htd
        have hk' : d = .string := hk
        subst hk'
        have hlt : n.toNat < s.size := by omega
        refine .still h (u := .int .u8 (s.data.getD n.toNat 0).toNat) ?_ (.val _ _ (.v _))
        have hg : s[n.toNat]? = some (s.data.getD n.toNat 0) := by
          rw [getElem?_pos s n.toNat hlt]
          have : n.toNat < s.data.size := hlt
          simp [Array.getD]
          rw [dif_pos hlt]
          rfl
        simp [execOp, ho, hy.v_inv, hi'.v_inv, Instr.index, asIntOf, run_underlying hu, Sem.run_bind, hb.1, hg]
      · cases e
    · cases e
  · -- convert
    rename_i src dst y ho
    split at e
    · rename_i k0 n0 k n1 k' n h1 h2 hax
      obtain rfl := Option.some.inj e
      have hy := ht.ev y
      rw [hax] at hy
      obtain ⟨⟨d1, hu1, _, hk1⟩, _⟩ := hK.td.one _ _ h1
      obtain ⟨⟨d2, hu2, _, hk2⟩, _⟩ := hK.td.one _ _ h2
      have e1 : d1 = .int k0 := hk1
      have e2 : d2 = .int k := hk2
      subst e1
      subst e2
      refine .still h (u := .int k (k.wrap n)) ?_ (.val _ _ (.v _))
      simp [execOp, ho, hy.v_inv, convert, run_underlying hu1, run_underlying hu2, Sem.run_bind, Conv.intToInt]
    · rename_i z1 z2 s h1 h2 hax
      obtain rfl := Option.some.inj e
      have hy := ht.ev y
      rw [hax] at hy
      obtain ⟨⟨d1, hu1, _, hk1⟩, _⟩ := hK.td.one _ _ h1
      obtain ⟨⟨d2, hu2, _, hk2⟩, _⟩ := hK.td.one _ _ h2
      have e1 : d1 = .string := hk1
      have e2 : d2 = .string := hk2
      subst e1
      subst e2
      refine .still h (u := .string s) ?_ (.val _ _ (.v _))
      simp [execOp, ho, hy.v_inv, convert, run_underlying hu1, run_underlying hu2, Sem.run_bind]
    · cases e
  · -- calls
    rename_i c ho
    split at e
    · rename_i hc
      split at e
      · rename_i y t hxs hts
        have ha : c.args = #[y] := by rw [← Array.toArray_toList (xs := c.args), hxs]
        have hat : c.argTypes = #[t] := by rw [← Array.toArray_toList (xs := c.argTypes), hts]
        have hy := ht.ev y
        split at e
        · rename_i e' sz by' htd
          split at e
          · rename_i n hn
            obtain rfl := Option.some.inj e
            obtain ⟨ad, cp, hu⟩ := lenA_sound h hy hn
            obtain ⟨hut, _⟩ := hK.td.sl t _ _ _ htd
            have hel : P.elem t = e' := by simp [Program.elem, hut]
            refine .still h (u := .int .i64 n) ?_ (.val _ _ (.v _))
            have := run_len_slice (P := P) w t o.type ad n cp (by rw [hel]; exact hut)
            simp [execOp, ho, resolve, hc, ha, hat, invoke, builtin, hu, this, goInt]
          · cases e
        · rename_i z s htd hax
          obtain rfl := Option.some.inj e
          rw [hax] at hy
          obtain ⟨⟨d, hu, _, hk⟩, _⟩ := hK.td.one t _ htd
          have hk' : d = .string := hk
          subst hk'
          refine .still h (u := .int .i64 s.size) ?_ (.val _ _ (.v _))
          simp [execOp, ho, resolve, hc, ha, hat, invoke, builtin, hy.v_inv, Builtin.len_, run_underlying hu, Sem.run_bind, goInt]
        · cases e
      · cases e
    · rename_i hc
      split at e
      · rename_i hs
        obtain rfl := Option.some.inj e
        exact mm_op ht h ho (.inl ⟨rfl, hc⟩) hs
      · exact pureOp_sound ht h e (congr_builtin ho hc)
    · rename_i hc
      split at e
      · rename_i hs
        obtain rfl := Option.some.inj e
        exact mm_op ht h ho (.inr ⟨rfl, hc⟩) hs
      · exact pureOp_sound ht h e (congr_builtin ho hc)
    · rename_i f hc
      split at e
      · rename_i r Hr hr
        exact callMA_q hG hK ht h ho hc hr e
      · cases e
    · cases e
  · cases e
end
end Go.Proofs.Ytkifbcjmmkbilaa.Av
