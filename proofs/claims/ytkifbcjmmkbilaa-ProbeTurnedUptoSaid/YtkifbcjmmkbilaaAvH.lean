/- The interpreter's operations that make or write memory, one by one. -/
import Derived.Test.YtkifbcjmmkbilaaAvG
set_option linter.unusedVariables false
set_option linter.unusedSimpArgs false
namespace Go.Proofs.Ytkifbcjmmkbilaa.Av
open Go Go.RowKit
variable {P : Program}
section
variable {S : Sto} {H : List Blk} {pl : Pl} {A : Nat → Prop} {ds : List Deferred} {G : World → Prop} {B : Nat} {w0 w : World} {C : Ctx}

theorem atom_one {x : AV} {u : Value} (h : x.atom = true) (r : Rep S H pl x u) : u.oneCell' = true := by
  cases x with
  | any => simp [AV.atom] at h
  | v y => rw [r.v_inv]; simpa [AV.atom] using h
  | lst sz n m get => cases r with | val _ _ r => cases r <;> rfl
  | z b sz => cases r with | val _ _ r => cases r <;> rfl
  | ept cs => cases r with | val _ _ r => cases r; rfl
  | own id ver => cases r with
    | val _ _ r => cases r
    | own _ _ _ _ h1 => exact h1
  | gpt _ _ _ _ => cases r with
    | val _ _ r => cases r
    | gpt _ _ _ _ _ _ h1 => exact h1
  | ptr _ _ => cases r with
    | val _ _ r => cases r
    | ptr _ _ _ _ h1 => exact h1
  | cut _ _ _ => cases r with
    | val _ _ r => cases r
    | cut _ _ _ _ _ h1 => exact h1
  | agg cs => simp [AV.atom] at h
  | tup cs => simp [AV.atom] at h
  | fn f cs => obtain ⟨us, rfl, _⟩ := r.fn_inv; rfl
  | ifc t y => obtain ⟨v, rfl, _⟩ := r.ifc_inv; rfl
theorem cells_one {u : Value} (h : u.oneCell' = true) : u.cells = #[u] := by cases u <;> first | rfl | simp [Value.oneCell'] at h

theorem Cs.atoms {cs : List AV} {us : List Value} (h : Cs (Rep S H pl) cs us) (ha : cs.all AV.atom = true) : ∀ u ∈ us, u.oneCell' = true := by
  intro u hu
  obtain ⟨j, hj⟩ := List.mem_iff_getElem?.1 hu
  have hlt : j < cs.length := by rw [← h.1]; exact (List.getElem?_eq_some_iff.1 hj).1
  have hg : cs[j]? = some cs[j] := List.getElem?_eq_getElem hlt
  exact atom_one (List.all_eq_true.1 ha _ (List.mem_of_getElem? hg)) (h.2 j _ u hg hj)

theorem cells_rep {x : AV} {u : Value} (r : Rep S H pl x u) (ha : x.cells.all AV.atom = true) : Cs (Rep S H pl) x.cells u.cells.toList ∧ (∀ v ∈ u.cells.toList, v.oneCell' = true) ∧ ∀ n, x.cells.length = n → u.cells.size = n := by
  have key : Cs (Rep S H pl) x.cells u.cells.toList := by
    cases x with
    | agg cs => obtain ⟨us, rfl, k⟩ := r.agg_inv; exact k
    | _ =>
      have h1 : u.oneCell' = true := atom_one (by simpa [AV.cells] using ha) r
      rw [cells_one h1]
      exact Cs.one r
  exact ⟨key, key.atoms ha, fun n hn => by rw [← Array.length_toList, key.1, hn]⟩

theorem zero_info (hT : TdOk P C) {t : Nat} {zs : List Value} (e : (C.td t).zero = some zs) : ∃ i z, P.info? t = some i ∧ i.zero = some z ∧ z.cells = zs.toArray ∧ i.size = zs.length ∧ ∀ z ∈ zs, z.oneCell' = true := by
  cases hd : C.td t with
  | one z =>
    rw [hd] at e
    simp [TD.zero] at e
    subst e
    obtain ⟨_, i, hi, hs, hz, h1, hc⟩ := hT.one t z hd
    exact ⟨i, z, hi, hz, hc, hs, by simpa using h1⟩
  | agg sz fs zs' =>
    rw [hd] at e
    simp [TD.zero] at e
    subst e
    obtain ⟨flds, i, hu, hi, hs, hz, hl, _, h1, _⟩ := hT.agg t _ _ _ hd
    exact ⟨i, _, hi, hz, rfl, by rw [hs, hl], h1⟩
  | sl e' sz by' =>
    rw [hd] at e
    simp [TD.zero] at e
    subst e
    obtain ⟨_, _, _, i, hi, hs, hz⟩ := hT.sl t _ _ _ hd
    exact ⟨i, _, hi, hz, rfl, hs, by simp [Value.oneCell']⟩
  | no => rw [hd] at e; simp [TD.zero] at e

theorem op_alloc {tmps : List AV} {a : Act} {o : Oper} {t : Nat} {zs : List Value} (hG : ∀ w', Below B w0 w' → G w') (hT : TdOk P C) (ht : TRel ds S H pl tmps a) (h : WRel A G B w0 S H pl w) (ho : o.op = .alloc t) (e : (C.td t).zero = some zs) :
    OpW P A G B w0 o a S H pl w (.ptr H.length 0) (H ++ [.var (zAV (C.zz t) zs)]) := by
  obtain ⟨i, z, hi, hz, hc, hs, h1⟩ := zero_info hT e
  have hr : (execOp a.eval o).run P w = .ok (.value (.pointer (some ⟨w.heap.size, 0, none⟩))) (w.alloc (.cells zs.toArray t)) := by
    simp [execOp, ho, Instr.alloc, zeroValue, typeInfo, hi, hz, newVar, newRow, hc]
  refine .run hr push_ext (h.push hG ((Below.refl _ _).alloc (Nat.le_refl _) _) (p := some (w.heap.size, 0)) ⟨_, _, zs, t, rfl, Nat.le_refl _, heap_alloc_new w _, (zAV_rep _ _).mono fun x u r => .val _ _ r, h1⟩) (.ptr _ _ _ (by simp) rfl fun cs q => ⟨w.heap.size, 0, by simp [pushPl], rfl⟩)

theorem op_box {tmps : List AV} {a : Act} {o : Oper} {t : Nat} {x : Operand} (hG : ∀ w', Below B w0 w' → G w') (ht : TRel ds S H pl tmps a) (h : WRel A G B w0 S H pl w) (ho : o.op = .box t x) (e : (evA tmps x).cells.all AV.atom = true) :
    OpW P A G B w0 o a S H pl w (.ptr H.length 0) (H ++ [.var (evA tmps x).cells]) := by
  obtain ⟨hc, h1, _⟩ := cells_rep (ht.ev x) e
  have hr : (execOp a.eval o).run P w = .ok (.value (.pointer (some ⟨w.heap.size, 0, none⟩))) (w.alloc (.cells (a.eval x).cells t)) := by
    simp [execOp, ho, Instr.box, newVar, newRow]
  refine .run hr push_ext (h.push hG ((Below.refl _ _).alloc (Nat.le_refl _) _) (p := some (w.heap.size, 0)) ⟨_, _, (a.eval x).cells.toList, t, rfl, Nat.le_refl _, by rw [Array.toArray_toList]; exact heap_alloc_new w _, hc, h1⟩) (.ptr _ _ _ (by simp) rfl fun cs q => ⟨w.heap.size, 0, by simp [pushPl], rfl⟩)

theorem op_nil {tmps : List AV} {a : Act} {o : Oper} {e sz by_ : Nat} (hG : ∀ w', Below B w0 w' → G w') (hT : TdOk P C) (ht : TRel ds S H pl tmps a) (h : WRel A G B w0 S H pl w) (ho : o.op = .assign (.const (.slice none 0 0))) (htd : C.td o.type = .sl e sz by_) :
    OpW P A G B w0 o a S H pl w (.own H.length 0) (H ++ [.grow e sz 0 true []]) := by
  obtain ⟨_, h0, _⟩ := hT.sl _ _ _ _ htd
  have hr : (execOp a.eval o).run P w = .ok (.value (.slice none 0 0)) w := by simp [execOp, ho, Act.eval]
  refine .run hr push_ext (h.push hG (Below.refl _ _) (p := none) ⟨h0, by simp, fun _ => rfl, by simp, [], World.ownsRow_nil _ _ _ _, Cs.nil, by simp⟩) (.own _ _ _ (by simp) rfl fun e' sz' v bv es q => ?_)
  simp at q
  obtain ⟨rfl, rfl, rfl, rfl, rfl⟩ := q
  simp [pushPl, slv]

/-- A new list's variable: the list is an own one, without elements. -/
theorem op_alloc_sl {tmps : List AV} {a : Act} {o : Oper} {t e sz by_ : Nat} (hG : ∀ w', Below B w0 w' → G w') (hT : TdOk P C) (ht : TRel ds S H pl tmps a) (h : WRel A G B w0 S H pl w) (ho : o.op = .alloc t) (htd : C.td t = .sl e sz by_) :
    OpW P A G B w0 o a S H pl w (.ptr (H.length + 1) 0) (H ++ [.grow e sz 0 true [], .var [.own H.length 0]]) := by
  obtain ⟨_, h0, _, i, hi, hs, hz⟩ := hT.sl _ _ _ _ htd
  have hr : (execOp a.eval o).run P w = .ok (.value (.pointer (some ⟨w.heap.size, 0, none⟩))) (w.alloc (.cells #[.slice none 0 0] t)) := by
    simp [execOp, ho, Instr.alloc, zeroValue, typeInfo, hi, hz, newVar, newRow, Value.cells]
  have h1 := h.push hG (Below.refl _ _) (p := none) (x := .grow e sz 0 true []) ⟨h0, by simp, fun _ => rfl, by simp, [], World.ownsRow_nil _ _ _ _, Cs.nil, by simp⟩
  have hR : Rep S (H ++ [Blk.grow e sz 0 true []]) (pushPl H.length pl none) (.own H.length 0) (.slice none 0 0) := .own _ _ _ (by simp) rfl fun e' sz' v bv es q => by
    simp at q
    obtain ⟨rfl, rfl, rfl, rfl, rfl⟩ := q
    simp [pushPl, slv]
  have h2 := h1.push hG ((Below.refl _ _).alloc (Nat.le_refl _) _) (p := some (w.heap.size, 0)) (x := .var [.own H.length 0]) ⟨_, _, [.slice none 0 0], t, rfl, Nat.le_refl _, heap_alloc_new w _, Cs.one hR, by simp [Value.oneCell']⟩
  have hE : Ext B S H pl S ((H ++ [Blk.grow e sz 0 true []]) ++ [Blk.var [.own H.length 0]]) (pushPl (H ++ [Blk.grow e sz 0 true []]).length (pushPl H.length pl none) (some (w.heap.size, 0))) := push_ext.trans push_ext
  rw [List.append_assoc] at hE h2
  refine .run hr hE h2 (.ptr _ _ _ (by simp) rfl fun cs q => ⟨w.heap.size, 0, by simp [pushPl], rfl⟩)

/-! ### Stores -/
theorem run_store_row {t : Nat} {b o : Nat} {u : Value} {cur : Array Value} {e : TypeId} {i : TypeInfo} (hi : P.info? t = some i) (hs : i.size = u.cells.size) (hb : w.heap[b]? = some (.cells cur e (0, 0))) (hl : o + u.cells.size ≤ cur.size) (h1 : ∀ v ∈ u.cells.toList, v.oneCell' = true) :
    (Instr.storeAt t (.pointer (some ⟨b, o, none⟩)) u).run P w = .ok () (w.setRow b (cur.toList.take o ++ u.cells.toList ++ cur.toList.drop (o + u.cells.size)).toArray) := by
  have := run_storeCells_at (P := P) b o e u.cells.toList 0 cur w hb (by simpa using hl) h1
  simp only [Nat.add_zero, Array.length_toList] at this
  simp [Instr.storeAt, Instr.sureAddr, storeVar, sizeOf, typeInfo, hi, hs, this]

theorem Cs.splice {R : AV → Value → Prop} {cs ds : List AV} {us vs : List Value} (h : Cs R cs us) (k : Cs R ds vs) (o : Nat) : Cs R (splice cs o ds) (us.take o ++ vs ++ us.drop (o + vs.length)) := by
  unfold Av.splice
  rw [← k.1]
  exact ((h.take o).append k).append (h.drop _)

theorem td_size (hT : TdOk P C) {t n : Nat} (e : (C.td t).size = n) (hn : 0 < n) : ∃ i, P.info? t = some i ∧ i.size = n := by
  cases hd : C.td t with
  | one z => obtain ⟨_, i, hi, hs, _⟩ := hT.one t z hd; rw [hd] at e; exact ⟨i, hi, by rw [hs]; exact e⟩
  | agg sz fs zs => obtain ⟨_, i, _, hi, hs, _⟩ := hT.agg t _ _ _ hd; rw [hd] at e; exact ⟨i, hi, by rw [hs]; exact e⟩
  | sl e' sz by' => obtain ⟨_, _, _, i, hi, hs, _⟩ := hT.sl t _ _ _ hd; rw [hd] at e; exact ⟨i, hi, by rw [hs]; exact e⟩
  | no => rw [hd] at e; simp [TD.size] at e; omega

theorem set_ext_var {k : Nat} {cs ds : List AV} (hk : H[k]? = some (.var cs)) : Ext B S H pl S (H.set k (.var ds)) (pushPl k pl (pl k)) := by
  have hp : ∀ j, pushPl k pl (pl k) j = pl j := fun j => by unfold pushPl; split <;> simp_all
  have hkl : k < H.length := (List.getElem?_eq_some_iff.1 hk).1
  refine ⟨fun a u e => .inl e, S.le_refl, by simp, fun j cs' hj e => ?_, fun j e sz ver bv es hj q => ?_⟩
  · by_cases hjk : j = k
    · subst hjk; exact ⟨cs, hk, hp _⟩
    · rw [List.getElem?_set_ne (Ne.symm hjk)] at e; exact ⟨cs', e, hp _⟩
  · by_cases hjk : j = k
    · subst hjk; rw [List.getElem?_set_self hkl] at q; cases q
    · rw [List.getElem?_set_ne (Ne.symm hjk)] at q; exact ⟨e, ver, bv, es, q, Nat.le_refl _, fun _ => ⟨rfl, hp _⟩⟩
theorem set_ext_grow {k : Nat} {e sz ver : Nat} {bv bv' : Bool} {es es' : List (List AV)} (hk : H[k]? = some (.grow e sz ver bv es)) (hl : es'.length = es.length) : Ext B S H pl S (H.set k (.grow e sz ver bv' es')) (pushPl k pl (pl k)) := by
  have hp : ∀ j, pushPl k pl (pl k) j = pl j := fun j => by unfold pushPl; split <;> simp_all
  have hkl : k < H.length := (List.getElem?_eq_some_iff.1 hk).1
  refine ⟨fun a u e => .inl e, S.le_refl, by simp, fun j cs' hj q => ?_, fun j e2 sz2 ver2 bv2 es2 hj q => ?_⟩
  · by_cases hjk : j = k
    · subst hjk; rw [List.getElem?_set_self hkl] at q; cases q
    · rw [List.getElem?_set_ne (Ne.symm hjk)] at q; exact ⟨cs', q, hp _⟩
  · by_cases hjk : j = k
    · subst hjk
      rw [List.getElem?_set_self hkl] at q
      cases q
      exact ⟨e, ver, bv, es, hk, Nat.le_refl _, fun _ => ⟨hl, hp _⟩⟩
    · rw [List.getElem?_set_ne (Ne.symm hjk)] at q; exact ⟨e2, ver2, bv2, es2, q, Nat.le_refl _, fun _ => ⟨rfl, hp _⟩⟩

theorem flatten_set : ∀ (es : List (List AV)) (sz i : Nat) (c : List AV) (off : Nat) (ds : List AV), (∀ c ∈ es, c.length = sz) → es[i]? = some c → off + ds.length ≤ sz →
    (es.set i (splice c off ds)).flatten = splice es.flatten (i * sz + off) ds
  | [], sz, i, c, off, ds, _, h, _ => by simp at h
  | d :: es, sz, 0, c, off, ds, hl, h, ho => by
    simp at h
    subst h
    have hd := hl d List.mem_cons_self
    simp only [List.set_cons_zero, List.flatten_cons, splice, Nat.zero_mul, Nat.zero_add]
    rw [List.take_append_of_le_length (by omega), List.drop_append_of_le_length (by omega)]
    simp
  | d :: es, sz, i + 1, c, off, ds, hl, h, ho => by
    have hd := hl d List.mem_cons_self
    simp only [List.getElem?_cons_succ] at h
    have ih := flatten_set es sz i c off ds (fun c hc => hl c (List.mem_cons_of_mem _ hc)) h ho
    simp only [List.set_cons_succ, List.flatten_cons, ih]
    unfold splice
    have e1 : (i + 1) * sz + off = d.length + (i * sz + off) := by rw [hd, Nat.add_mul]; omega
    rw [e1, List.take_length_add_append, show d.length + (i * sz + off) + ds.length = d.length + (i * sz + (off + ds.length)) by omega, List.drop_length_add_append, show i * sz + off + ds.length = i * sz + (off + ds.length) by omega]
    simp

theorem splice_length {cs ds : List AV} {o : Nat} (h : o + ds.length ≤ cs.length) : (splice cs o ds).length = cs.length := by
  unfold splice
  simp
  omega

theorem hbs_append (n : Nat) : ∀ cs ds : List AV, AV.hbs n (cs ++ ds) = (AV.hbs n cs && AV.hbs n ds)
  | [], ds => by simp [AV.hbs]
  | x :: cs, ds => by simp [AV.hbs, hbs_append n cs ds, Bool.and_assoc]
theorem hbs_take (n k : Nat) (cs : List AV) (h : AV.hbs n cs = true) : AV.hbs n (cs.take k) = true := by
  rw [← List.take_append_drop k cs, hbs_append, Bool.and_eq_true] at h
  exact h.1
theorem hbs_drop (n k : Nat) (cs : List AV) (h : AV.hbs n cs = true) : AV.hbs n (cs.drop k) = true := by
  rw [← List.take_append_drop k cs, hbs_append, Bool.and_eq_true] at h
  exact h.2
theorem hbs_splice (n : Nat) (cs ds : List AV) (o : Nat) (h : AV.hbs n cs = true) (k : AV.hbs n ds = true) : AV.hbs n (splice cs o ds) = true := by
  unfold splice
  rw [hbs_append, hbs_append, hbs_take n o cs h, k, hbs_drop n _ cs h]
  rfl

theorem take_splice (L V : List Value) (o N : Nat) (h : o + V.length ≤ N) (hN : N ≤ L.length) : (L.take o ++ V ++ L.drop (o + V.length)).take N = (L.take N).take o ++ V ++ (L.take N).drop (o + V.length) := by
  have e1 : (L.take N).take o = L.take o := by rw [List.take_take]; congr 1; omega
  have e2 : L.drop (o + V.length) = (L.take N).drop (o + V.length) ++ L.drop N := by
    conv => lhs; rw [← List.take_append_drop N L]
    rw [List.drop_append_of_le_length (by simp; omega)]
  rw [e1, e2, ← List.append_assoc]
  refine List.take_left' ?_
  simp
  omega

theorem zsl_rep {S : Sto} {H : List Blk} {pl : Pl} {d : TD} {y : AV} {v : Value} (h : Rep S H pl y v) : Rep S H pl (zsl d y) v := by
  unfold zsl
  split
  · cases h with
    | val _ _ r => cases r with
      | v => exact .val _ _ (.znil _ _)
  · exact h

theorem dz_rep {S : Sto} {H : List Blk} {pl : Pl} {xs : List AV} {us : List Value} (h : Cs (Rep S H pl) xs us) : Cs (Rep S H pl) (xs.map dz) us := by
  refine ⟨by rw [List.length_map]; exact h.1, fun j y u hy hu => ?_⟩
  rw [List.getElem?_map] at hy
  cases hx : xs[j]? with
  | none => rw [hx] at hy; cases hy
  | some x =>
    rw [hx] at hy
    obtain rfl := Option.some.inj hy
    have r := h.2 j x u hx hu
    unfold dz
    split
    · cases r with
      | val _ _ r => cases r with
        | znil => exact .val _ _ (.nil _ _)
        | zsome => exact .val _ _ (.lst _ 0 0 _ _ 0 (fun _ _ => undef) (Nat.le_refl _) (Nat.le_refl _) (fun i hi => absurd hi (Nat.not_lt_zero _)) (fun i j hi => absurd hi (Nat.not_lt_zero _)) (fun i j x hi => absurd hi (Nat.not_lt_zero _)) (fun i j hi => absurd hi (Nat.not_lt_zero _)))
    · exact r
theorem store_sound (hG : ∀ w', Below B w0 w' → G w') (hT : TdOk P C) (h : WRel A G B w0 S H pl w) {t : Nat} {x y : AV} {u v : Value} {H' : List Blk} (hx : Rep S H pl x u) (hy : Rep S H pl y v) (e : storeA C t x y H = some H') :
    ∃ w' pl', (Instr.storeAt t u v).run P w = .ok () w' ∧ Ext B S H pl S H' pl' ∧ WRel A G B w0 S H' pl' w' := by
  unfold storeA at e
  simp only at e
  split at e
  · rename_i hc
    obtain ⟨hz, hlen, hat⟩ := hc
    obtain ⟨hcv, h1, hsz⟩ := cells_rep hy hat
    have hsz := hsz _ rfl
    split at e
    · rename_i k off
      split at e
      · rename_i cs hH
        split at e
        · rename_i hle
          obtain rfl := Option.some.inj e
          obtain ⟨b, c, us, t', hp, hB, hh, hcu, hone⟩ := h.h.var k cs hH
          have hu : u = .pointer (some ⟨b, off, none⟩) := by
            cases hx with
            | val _ _ r => cases r
            | ptr _ _ _ hi _ hq =>
              obtain ⟨b', c', hp', hu⟩ := hq _ hH
              rw [hp] at hp'
              cases hp'
              exact hu
          subst hu
          obtain ⟨i, hi, his⟩ := td_size hT hlen.symm hz
          have hr := run_store_row (P := P) (o := off) hi (by rw [his, hsz]) hh (by rw [hsz]; simp; rw [hcu.1]; omega) h1
          refine ⟨_, _, hr, set_ext_var hH, ?_⟩
          refine h.turn hG hH (set_ext_var hH) (by simp) rfl rfl rfl (fun b' hb' hne => setRow_other _ _ _ _ (fun hbb => hne c (by rw [hbb]; exact hp))) ⟨b, c, _, t', hp, hB, setRow_heap w b _ _ t' _ hh, ?_, ?_⟩ (fun b' c' hp' => .inr ⟨c', hp'⟩) trivial
          · have := hcu.splice hcv off
            rwa [Array.length_toList] at this
          · intro z hz'
            rw [List.append_assoc] at hz'
            rcases List.mem_append.1 hz' with hz' | hz'
            · exact hone z (List.mem_of_mem_take hz')
            · rcases List.mem_append.1 hz' with hz' | hz'
              · exact h1 z hz'
              · exact hone z (List.mem_of_mem_drop hz')
        · cases e
      · cases e
    · rename_i id ver j off
      split at e
      · rename_i e' sz ver' bv es hH
        split at e
        · rename_i hv
          subst hv
          split at e
          · rename_i c hc
            split at e
            · rename_i hle
              obtain rfl := Option.some.inj e
              obtain ⟨h0, hl, hn, hbv, xs, ho, hcu, hone⟩ := h.h.grow id _ _ _ _ _ hH
              have hcl := hl c (List.mem_of_getElem? hc)
              obtain ⟨b, cap, hp, hu⟩ : ∃ b cap, pl id = some (b, cap) ∧ u = .pointer (some ⟨b, j * sz + off, none⟩) := by
                cases hx with
                | val _ _ r => cases r
                | gpt _ _ _ _ _ hi _ hq => exact (hq _ _ _ _ _ hH).2 rfl
              subst hu
              obtain ⟨i, hi, his⟩ := td_size hT hlen.symm hz
              have hjl : j < es.length := (List.getElem?_eq_some_iff.1 hc).1
              have hoff : j * sz + off + y.cells.length ≤ es.length * sz := by
                have : (j + 1) * sz ≤ es.length * sz := Nat.mul_le_mul_right _ hjl
                rw [Nat.add_mul] at this
                omega
              rcases ho.2 with ⟨hq, _⟩ | ⟨g, cap', cur, hq, hBg, hg, hnc, hcm, hcs, htake⟩
              · rw [hp] at hq; simp [slv] at hq
              · rw [hp] at hq
                simp [slv] at hq
                obtain ⟨rfl, rfl⟩ := hq
                have hcap : es.length * sz ≤ cur.size := by rw [hcs]; exact Nat.mul_le_mul_right _ hnc
                have hr := run_store_row (P := P) (o := j * sz + off) hi (by rw [his, hsz]) hg (by rw [hsz]; omega) h1
                have hlen' : (es.set j (splice c off (y.cells.map dz))).length = es.length := by simp
                refine ⟨_, _, hr, set_ext_grow hH hlen', ?_⟩
                refine h.turn hG hH (set_ext_grow hH hlen') (by simp) rfl rfl rfl (fun b' hb' hne => setRow_other _ _ _ _ (fun hbb => hne cap (by rw [hbb]; exact hp))) ⟨h0, ?_, by rw [hp]; simp, ?_, xs.take (j * sz + off) ++ v.cells.toList ++ xs.drop (j * sz + off + v.cells.toList.length), ⟨?_, .inr ⟨b, cap, _, by rw [hp, hlen']; rfl, hBg, setRow_heap w b _ _ e' _ hg, by rw [hlen']; exact hnc, hcm, ?_, ?_⟩⟩, ?_, ?_⟩ (fun b' c' hp' => .inr ⟨c', hp'⟩) trivial
                · intro d hd
                  rcases List.mem_or_eq_of_mem_set hd with hd | rfl
                  · exact hl d hd
                  · rw [splice_length (by rw [List.length_map]; exact hle), hcl]
                · intro hb d hd
                  rw [Bool.and_eq_true] at hb
                  rcases List.mem_or_eq_of_mem_set hd with hd | rfl
                  · exact hbv hb.1 d hd
                  · exact hbs_splice 0 _ _ _ (hbv hb.1 c (List.mem_of_getElem? hc)) hb.2
                · have := ho.1
                  simp only [List.length_append, List.length_take, List.length_drop, Array.length_toList, hsz, hlen']
                  omega
                · simp only [List.size_toArray, List.length_append, List.length_take, List.length_drop, Array.length_toList, hsz]
                  omega
                · have hvs : v.cells.size = v.cells.toList.length := Array.length_toList.symm
                  rw [hlen', ← htake, hvs]
                  have hvl : v.cells.toList.length = y.cells.length := by rw [Array.length_toList, hsz]
                  exact take_splice _ _ _ _ (by rw [hvl]; omega) (by simpa using hcap)
                · rw [flatten_set es sz j c off (y.cells.map dz) hl hc (by rw [← hcl, List.length_map]; exact hle)]
                  exact hcu.splice (dz_rep hcv) _
                · intro z hz'
                  rw [List.append_assoc] at hz'
                  rcases List.mem_append.1 hz' with hz' | hz'
                  · exact hone z (List.mem_of_mem_take hz')
                  · rcases List.mem_append.1 hz' with hz' | hz'
                    · exact h1 z hz'
                    · exact hone z (List.mem_of_mem_drop hz')
            · cases e
          · cases e
        · cases e
      · cases e
    · cases e
  · cases e
end
end Go.Proofs.Ytkifbcjmmkbilaa.Av
