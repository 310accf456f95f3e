/- The interpreter's operations, held against the program's own: loads, places, tests, numbers. -/
import Derived.Test.YtkifbcjmmkbilaaAvR
set_option linter.unusedVariables false
set_option linter.unusedSimpArgs false
namespace Go.Proofs.Ytkifbcjmmkbilaa.Av
open Go Go.RowKit
variable {P : Program}

/-- What the zero of a type of one cell tells of the type. -/
def oneKind (z : Value) (d : TypeDesc) : Prop :=
  match z with
  | .nilIface => ∃ ms, d = .interface ms
  | .nilFunc => ∃ a b c, d = .func a b c
  | .pointer _ => ∃ e, d = .pointer e
  | .bool _ => d = .bool
  | .int k _ => d = .int k
  | .string _ => d = .string
  | _ => True
/-- What the table of types says is so. -/
structure TdOk (P : Program) (C : Ctx) : Prop where
  one : ∀ t z, C.td t = .one z → (∃ d, P.underlying t = some d ∧ d.isRow = false ∧ oneKind z d) ∧ ∃ i, P.info? t = some i ∧ i.size = 1 ∧ i.zero = some z ∧ z.oneCell' = true ∧ z.cells = #[z]
  agg : ∀ t sz fs zs, C.td t = .agg sz fs zs → ∃ flds i, P.underlying t = some (.struct flds) ∧ P.info? t = some i ∧ i.size = sz ∧ i.zero = some (.agg zs.toArray) ∧ zs.length = sz ∧ 0 < sz ∧ (∀ z ∈ zs, z.oneCell' = true) ∧
    flds.toList.length = fs.length ∧ ∀ (j : Nat) f o s (g : Bool), flds[j]? = some f → fs[j]? = some (o, s, g) → f.offset = o ∧ 0 < s ∧ o + s ≤ sz ∧ (∃ i', P.info? f.type = some i' ∧ i'.size = s) ∧
      ∃ d, P.underlying f.type = some d ∧ d.isRow = g ∧ (g = false → s = 1)
  sl : ∀ t e sz bytes, C.td t = .sl e sz bytes → P.underlying t = some (.slice e) ∧ 0 < sz ∧ (∃ i z, P.info? e = some i ∧ i.size = sz ∧ i.bytes = bytes ∧ i.zero = some z ∧ z.cells.size = sz) ∧ ∃ i, P.info? t = some i ∧ i.size = 1 ∧ i.zero = some (.slice none 0 0)
  conc : ∀ t, C.conc t = true → ∃ d, P.underlying t = some d ∧ (match d with | .interface _ => false | _ => true) = true

theorem Cs.get {R : AV → Value → Prop} {cs : List AV} {us : List Value} (h : Cs R cs us) {j : Nat} {x : AV} (hx : cs[j]? = some x) : ∃ u, us[j]? = some u ∧ R x u := by
  have hj : j < us.length := by rw [h.1]; exact (List.getElem?_eq_some_iff.1 hx).1
  exact ⟨us[j], List.getElem?_eq_getElem hj, h.2 j x _ hx (List.getElem?_eq_getElem hj)⟩
theorem Cs.mono {R R' : AV → Value → Prop} {cs : List AV} {us : List Value} (h : Cs R cs us) (k : ∀ x u, R x u → R' x u) : Cs R' cs us := ⟨h.1, fun j x u hx hu => k x u (h.2 j x u hx hu)⟩
theorem Cs.drop {R : AV → Value → Prop} {cs : List AV} {us : List Value} (h : Cs R cs us) (n : Nat) : Cs R (cs.drop n) (us.drop n) :=
  ⟨by simp [h.1], fun j x u hx hu => by rw [List.getElem?_drop] at hx hu; exact h.2 _ x u hx hu⟩
theorem Cs.take {R : AV → Value → Prop} {cs : List AV} {us : List Value} (h : Cs R cs us) (n : Nat) : Cs R (cs.take n) (us.take n) :=
  ⟨by simp [h.1], fun j x u hx hu => by
    rw [List.getElem?_take] at hx hu
    split at hx <;> simp_all
    exact h.2 _ x u hx hu⟩
theorem Cs.append {R : AV → Value → Prop} {cs ds : List AV} {us vs : List Value} (h : Cs R cs us) (k : Cs R ds vs) : Cs R (cs ++ ds) (us ++ vs) := by
  refine ⟨by simp [h.1, k.1], fun j x u hx hu => ?_⟩
  by_cases hj : j < cs.length
  · rw [List.getElem?_append_left hj] at hx
    rw [List.getElem?_append_left (by rw [h.1]; exact hj)] at hu
    exact h.2 j x u hx hu
  · rw [List.getElem?_append_right (by omega)] at hx
    rw [List.getElem?_append_right (by rw [h.1]; omega), h.1] at hu
    exact k.2 _ x u hx hu
theorem Cs.nil {R : AV → Value → Prop} : Cs R [] [] := ⟨rfl, fun j x u hx => by simp at hx⟩
theorem Cs.one {R : AV → Value → Prop} {x u} (h : R x u) : Cs R [x] [u] := ⟨rfl, fun j y v hx hu => by
  cases j with
  | zero => simp at hx hu; subst hx; subst hu; exact h
  | succ j => simp at hx⟩
theorem Cs.vals {R : AV → Value → Prop} {us : List Value} (h : ∀ u, R (.v u) u) : Cs R (us.map .v) us := ⟨by simp, fun j x u hx hu => by
  rw [List.getElem?_map, hu] at hx
  simp at hx
  subst hx
  exact h u⟩

section
variable {S : Sto} {H : List Blk} {pl : Pl} {A : Nat → Prop} {ds : List Deferred} {G : World → Prop} {B : Nat} {w0 w : World}

theorem TRel.ev {tmps : List AV} {a : Act} (h : TRel ds S H pl tmps a) (x : Operand) : Rep S H pl (evA tmps x) (a.eval x) := by
  cases x with
  | tmp t =>
    show Rep S H pl (tmps.getD t .any) (a.tmps.getD t undef)
    by_cases ht : t < tmps.length
    · have hs : t < a.tmps.size := by rw [h.2.1]; exact ht
      have e1 : tmps[t]? = some tmps[t] := List.getElem?_eq_getElem ht
      have e2 : a.tmps[t]? = some a.tmps[t] := Array.getElem?_eq_getElem hs
      have := h.2.2 t _ _ e1 e2
      simpa [List.getD, Array.getD, ht, hs, e1, e2] using this
    · rw [show tmps.getD t AV.any = .any by simp [List.getD, List.getElem?_eq_none (Nat.le_of_not_lt ht)]]
      exact .val _ _ (.any _)
  | const c => exact .val _ _ (.v _)
  | global g => exact .val _ _ (.v _)
  | func f => exact .val _ _ (.fn f [] [] rfl (fun j x u hx => by simp at hx))

theorem TRel.put {tmps : List AV} {a : Act} (h : TRel ds S H pl tmps a) (d : Option Nat) {x u} (hx : Rep S H pl x u) : TRel ds S H pl (put tmps d x) (a.put d u) := by
  cases d with
  | none => exact h
  | some d =>
    refine ⟨h.1, by simp [Av.put, Act.put, h.2.1], fun i y v hy hv => ?_⟩
    simp only [Av.put, Act.put] at hy hv
    rw [Array.getElem?_setIfInBounds] at hv
    rw [List.getElem?_set] at hy
    by_cases e : d = i
    · subst e
      simp only [if_true] at hy hv
      split at hy
      · rw [if_pos (by rw [h.2.1]; assumption)] at hv
        simp at hy hv
        subst hy; subst hv
        exact hx
      · simp at hy
    · rw [if_neg e] at hy hv
      exact h.2.2 i y v hy hv

theorem TRel.mono {S' : Sto} {H' : List Blk} {pl' : Pl} {tmps : List AV} {a : Act} (h : TRel ds S H pl tmps a) (k : Ext B S H pl S' H' pl') : TRel ds S' H' pl' tmps a := ⟨h.1, h.2.1, fun i x u hx hu => (h.2.2 i x u hx hu).mono k⟩

/-! ### Readings -/
theorem run_loadVar_one {t : Nat} {a : Addr} {u : Value} {d : TypeDesc} (hu : P.underlying t = some d) (hd : d.isRow = false) (hc : w.cell? a = some u) : (loadVar t a).run P w = .ok u w := by
  have hagg : (isAgg t).run P w = .ok false w := by
    unfold isAgg
    rw [Sem.run_bind, run_underlying hu w]
    cases d <;> simp_all
  simp [loadVar, Sem.run_bind, hagg, load, Sem.run, hc]
theorem run_loadVar_agg {t : Nat} {a : Addr} {us : List Value} {flds : Array Field} {i : TypeInfo} (hu : P.underlying t = some (.struct flds)) (hi : P.info? t = some i) (hs : i.size = us.length) (hc : ∀ (j : Nat) v, us[j]? = some v → w.cell? (a.add j) = some v) : (loadVar t a).run P w = .ok (.agg us.toArray) w := by
  have hl := run_loadCells_list (P := P) w a us hc
  have hagg : (isAgg t).run P w = .ok true w := by
    unfold isAgg
    rw [Sem.run_bind, run_underlying hu w]
    simp
  simp [loadVar, Sem.run_bind, hagg, sizeOf, typeInfo, hi, hs, hl]

theorem cell_var (h : WRel A G B w0 S H pl w) {k : Nat} {cs : List AV} (hk : H[k]? = some (.var cs)) {b c : Nat} (hp : pl k = some (b, c)) : ∃ us, Cs (Rep S H pl) cs us ∧ ∀ (j : Nat) u, us[j]? = some u → w.cell? ⟨b, j, none⟩ = some u := by
  obtain ⟨b', c', us, t, hp', _, hh, hc, _⟩ := h.h.var k cs hk
  rw [hp] at hp'
  obtain ⟨rfl, rfl⟩ := Prod.mk.inj (Option.some.inj hp')
  exact ⟨us, hc, fun j u hu => by rw [cell_of_row w b j _ _ _ hh]; simpa using hu⟩

theorem flat_get : ∀ (es : List (List AV)) (sz i : Nat) (c : List AV), (∀ c ∈ es, c.length = sz) → es[i]? = some c → (es.flatten.drop (i * sz)).take sz = c
  | [], sz, i, c, _, h => by simp at h
  | d :: es, sz, 0, c, hl, h => by
    simp at h
    subst h
    have := hl d List.mem_cons_self
    simp [← this]
  | d :: es, sz, i + 1, c, hl, h => by
    have hd := hl d List.mem_cons_self
    simp only [List.getElem?_cons_succ] at h
    have ih := flat_get es sz i c (fun c hc => hl c (List.mem_cons_of_mem _ hc)) h
    rw [List.flatten_cons, show (i + 1) * sz = d.length + i * sz by rw [hd, Nat.add_mul]; omega, List.drop_append, List.drop_eq_nil_of_le (by omega), List.nil_append, Nat.add_sub_cancel_left]
    exact ih

theorem slv_some {p : Option (Nat × Nat)} {n : Nat} : (slv p n).ownBlock = p.map (·.1) := by cases p <;> rfl
theorem cell_grow (h : WRel A G B w0 S H pl w) {k e sz ver : Nat} {bv : Bool} {es : List (List AV)} (hk : H[k]? = some (.grow e sz ver bv es)) {b c : Nat} (hp : pl k = some (b, c)) {i : Nat} {el : List AV} (he : es[i]? = some el) :
    el.length = sz ∧ ∃ us, Cs (Rep S H pl) el us ∧ ∀ (j : Nat) u, us[j]? = some u → w.cell? ⟨b, i * sz + j, none⟩ = some u := by
  obtain ⟨h0, hl, _, _, xs, ho, hc, _⟩ := h.h.grow k e sz ver bv es hk
  have hel := hl el (List.mem_of_getElem? he)
  refine ⟨hel, (xs.drop (i * sz)).take sz, ?_, fun j u hu => ?_⟩
  · have := (hc.drop (i * sz)).take sz
    rwa [flat_get es sz i el hl he] at this
  · rw [List.getElem?_take] at hu
    split at hu
    · rw [List.getElem?_drop] at hu
      have := ho.cells (g := b) (by rw [slv_some, hp]; rfl) _ u hu
      rwa [Addr.add_lit, Nat.zero_add] at this
    · cases hu

theorem ld_one {C : Ctx} (hT : TdOk P C) {t : Nat} {z : Value} (h : (C.td t).ld = .one z) : ∃ d, P.underlying t = some d ∧ d.isRow = false := by
  cases hd : C.td t with
  | one z' => obtain ⟨⟨d, hu, hr, _⟩, _⟩ := hT.one t z' hd; exact ⟨d, hu, hr⟩
  | sl e sz by_ => exact ⟨_, (hT.sl t e sz by_ hd).1, rfl⟩
  | agg => rw [hd] at h; cases h
  | no => rw [hd] at h; cases h
theorem ld_agg {d : TD} {sz : Nat} {fs : List (Nat × Nat × Bool)} {zs : List Value} (h : d.ld = .agg sz fs zs) : d = .agg sz fs zs := by
  cases d <;> simp only [TD.ld, reduceCtorEq] at h
  exact h
theorem load_sound {C : Ctx} (hT : TdOk P C) (h : WRel A G B w0 S H pl w) {t : Nat} {x y : AV} {u : Value} (hx : Rep S H pl x u) (e : loadA C t x H = some y) :
    ∃ r, (Instr.loadAt t u).run P w = .ok r w ∧ Rep S H pl y r := by
  unfold loadA at e
  split at e
  · rename_i z k off htd
    obtain ⟨d, hu, hd⟩ := ld_one hT htd
    cases hH : H[k]? with
    | none => simp [hH] at e
    | some blk =>
      cases blk <;> simp [hH] at e
      rename_i cs
      cases hx with
      | val _ _ hv => cases hv
      | ptr _ _ _ hi _ hp =>
        obtain ⟨b, c, hpl, rfl⟩ := hp cs hH
        obtain ⟨us, hc, hw⟩ := cell_var h hH hpl
        obtain ⟨v, hv, hr⟩ := hc.get e
        exact ⟨v, by simp only [Instr.loadAt, Instr.sureAddr, Sem.run_bind, Sem.run_pure, Result.andThen_ok]; exact run_loadVar_one hu hd (hw off v hv), hr⟩
  · rename_i z id ver i off htd
    obtain ⟨d, hu, hd⟩ := ld_one hT htd
    cases hH : H[id]? with
    | none => simp [hH] at e
    | some blk =>
      cases blk <;> simp [hH] at e
      rename_i e' sz ver' bv es
      obtain ⟨rfl, e⟩ := e
      cases he : es[i]? with
      | none => simp [he] at e
      | some el =>
        simp [he] at e
        cases hx with
        | val _ _ hv => cases hv
        | gpt _ _ _ _ _ hi _ hp =>
          obtain ⟨b, c, hpl, rfl⟩ := (hp _ _ _ _ _ hH).2 rfl
          obtain ⟨hel, us, hc, hw⟩ := cell_grow h hH hpl he
          obtain ⟨v, hv, hr⟩ := hc.get e
          exact ⟨v, by simp only [Instr.loadAt, Instr.sureAddr, Sem.run_bind, Sem.run_pure, Result.andThen_ok]; exact run_loadVar_one hu hd (hw off v hv), hr⟩
  · rename_i z cs htd
    obtain ⟨d, hu, hd⟩ := ld_one hT htd
    cases hx with
    | val _ _ hv =>
      cases hv with
      | ept _ a f hs hr =>
        have h0 : 0 < cs.length := (List.getElem?_eq_some_iff.1 e).1
        refine ⟨f 0, ?_, .val _ _ (hr 0 y e)⟩
        have := h.imm _ _ (hs 0 h0)
        rw [Addr.add_zero'] at this
        simp only [Instr.loadAt, Instr.sureAddr, Sem.run_bind, Sem.run_pure, Result.andThen_ok]
        exact run_loadVar_one hu hd this
  · rename_i sz fs zs k off htd
    obtain ⟨flds, i, hu, hi, hsz, hzz, hzl, hpos, _⟩ := hT.agg t _ _ _ (ld_agg htd)
    cases hH : H[k]? with
    | none => simp [hH] at e
    | some blk =>
      cases blk <;> simp [hH] at e
      rename_i cs
      obtain ⟨hle, rfl⟩ := e
      cases hx with
      | val _ _ hv => cases hv
      | ptr _ _ _ hi' _ hp =>
        obtain ⟨b, c, hpl, rfl⟩ := hp cs hH
        obtain ⟨us, hc, hw⟩ := cell_var h hH hpl
        have hc' := (hc.drop off).take sz
        refine ⟨.agg ((us.drop off).take sz).toArray, ?_, .agg _ _ hc'.1 hc'.2⟩
        simp only [Instr.loadAt, Instr.sureAddr, Sem.run_bind, Sem.run_pure, Result.andThen_ok]
        refine run_loadVar_agg hu hi (by rw [hsz, hc'.1]; simp; omega) fun j v hv => ?_
        rw [Addr.add_lit]
        rw [List.getElem?_take] at hv
        split at hv
        · rw [List.getElem?_drop] at hv; exact hw _ v hv
        · cases hv
  · rename_i sz fs zs id ver i off htd
    obtain ⟨flds, inf, hu, hi, hsz, hzz, hzl, hpos, _⟩ := hT.agg t _ _ _ (ld_agg htd)
    cases hH : H[id]? with
    | none => simp [hH] at e
    | some blk =>
      cases blk <;> simp [hH] at e
      rename_i e' sz' ver' bv es
      obtain ⟨rfl, e⟩ := e
      cases he : es[i]? with
      | none => simp [he] at e
      | some el =>
        simp [he] at e
        obtain ⟨hle, rfl⟩ := e
        cases hx with
        | val _ _ hv => cases hv
        | gpt _ _ _ _ _ hi' _ hp =>
          obtain ⟨b, c, hpl, rfl⟩ := (hp _ _ _ _ _ hH).2 rfl
          obtain ⟨hel, us, hc, hw⟩ := cell_grow h hH hpl he
          have hc' := (hc.drop off).take sz
          refine ⟨.agg ((us.drop off).take sz).toArray, ?_, .agg _ _ hc'.1 hc'.2⟩
          simp only [Instr.loadAt, Instr.sureAddr, Sem.run_bind, Sem.run_pure, Result.andThen_ok]
          refine run_loadVar_agg hu hi (by rw [hsz, hc'.1]; simp; omega) fun j v hv => ?_
          rw [Addr.add_lit]
          rw [List.getElem?_take] at hv
          split at hv
          · rw [List.getElem?_drop] at hv; rw [Nat.add_assoc]; exact hw _ v hv
          · cases hv
  · rename_i sz fs zs cs htd
    obtain ⟨flds, i, hu, hi, hsz, hzz, hzl, hpos, _⟩ := hT.agg t _ _ _ (ld_agg htd)
    split at e
    · rename_i hle
      obtain rfl := Option.some.inj e
      cases hx with
      | val _ _ hv =>
        cases hv with
        | ept _ a f hs hr =>
          have hl : ((List.range sz).map f).length = (cs.take sz).length := by simp; omega
          refine ⟨.agg ((List.range sz).map f).toArray, ?_, .val _ _ (.agg _ _ hl ?_)⟩
          · simp only [Instr.loadAt, Instr.sureAddr, Sem.run_bind, Sem.run_pure, Result.andThen_ok]
            refine run_loadVar_agg hu hi (by rw [hsz]; simp) fun j v hv => ?_
            have hj : j < sz := by have := (List.getElem?_eq_some_iff.1 hv).1; simpa using this
            rw [List.getElem?_map, List.getElem?_range hj] at hv
            simp at hv
            subst hv
            exact h.imm _ _ (hs j (by omega))
          · intro j x v hx hv
            have hj : j < sz := by have := (List.getElem?_eq_some_iff.1 hv).1; simpa using this
            rw [List.getElem?_map, List.getElem?_range hj] at hv
            simp at hv
            subst hv
            rw [List.getElem?_take, if_pos hj] at hx
            exact hr j x hx
    · cases e
  · cases e
end
end Go.Proofs.Ytkifbcjmmkbilaa.Av
