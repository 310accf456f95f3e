/- Each operation of the interpreter, held against the program's own. -/
import Derived.Test.YtkifbcjmmkbilaaAvC
set_option linter.unusedVariables false
set_option linter.unusedSimpArgs false
namespace Go.Proofs.Ytkifbcjmmkbilaa.Av
open Go Go.RowKit
variable {P : Program}

def kindOk : Nat → TypeDesc → Prop
  | 0, .int _ => True
  | 1, .bool => True
  | 2, .string => True
  | _, _ => False
/-- The fields of a struct that is compared, each of one cell: their kinds. -/
def EqFlds (P : Program) : Nat → List Field → List Nat → Prop
  | _, [], [] => True
  | k, f :: fs, x :: xs => f.offset = k ∧ f.name ≠ "_" ∧ (∃ d, P.underlying f.type = some d ∧ kindOk x d) ∧ EqFlds P (k + 1) fs xs
  | _, _, _ => False

structure CtxOk (P : Program) (C : Ctx) (G : World → Prop) : Prop where
  td : TdOk P C
  m : ∀ n m, C.m n = some m → Models P G n m ∧ ∃ fn, P.funcs[n]? = some fn ∧ fn.body.isSome = true ∧ (fn.name == "runtime.NumGoroutine") = false
  eqs : ∀ t, C.eqs t ≠ [] → P.eqGuardType P.depth t = false ∧ P.stoodInHeld t = false ∧ ∃ flds, P.underlying t = some (.struct flds) ∧ EqFlds P 0 flds.toList (C.eqs t)
  fn : ∀ n fn, C.fn n = some fn → P.funcs[n]? = some fn ∧ fn.body.isSome = true ∧ (fn.name == "runtime.NumGoroutine") = false
  sq : ∀ n q, C.sq n = some q → SeqOk P G n q ∧ ∃ fn, P.funcs[n]? = some fn ∧ fn.body.isSome = true ∧ (fn.name == "runtime.NumGoroutine") = false

section
variable {S : Sto} {H : List Blk} {pl : Pl} {A : Nat → Prop} {ds : List Deferred} {G : World → Prop} {B : Nat} {w0 w : World} {C : Ctx}

theorem exec_call {r : Operand → Value} {o : Oper} {c : Call} {f : Operand} {n : Nat} {caps : Array Value} {fn : Func} (ho : o.op = .call c) (hc : c.callee = .value f) (hf : r f = .func (.func n) #[] caps)
    (hn : P.funcs[n]? = some fn) (hb : fn.body.isSome = true) (hname : (fn.name == "runtime.NumGoroutine") = false) : (execOp r o).run P w = .ok (.enter n (c.args.map r ++ caps)) w := by
  have hb' : fn.body.isNone = false := by cases h : fn.body <;> simp_all
  have h1 : fn.name ≠ "runtime.NumGoroutine" := by simpa using hname
  have h2 : fn.body ≠ none := fun e => by simp [e] at hb
  simp [execOp, ho, resolve, hc, hf, Deferred.ofValue, invoke, callFunc, hn, h1, h2, go_sem]

theorem evs_args {tmps : List AV} {a : Act} (ht : TRel ds S H pl tmps a) (xs : List Operand) : Cs (Rep S H pl) (xs.map (evA tmps)) (xs.map a.eval) :=
  ⟨by simp, fun j x u hx hu => by
    rw [List.getElem?_map] at hx hu
    cases hj : xs[j]? with
    | none => simp [hj] at hx
    | some y => simp [hj] at hx hu; subst hx; subst hu; exact ht.ev y⟩

/-- A call by a summary: what it leaves. -/
theorem call_any {tmps : List AV} {a : Act} {o : Oper} {c : Call} {f : Operand} {n : Nat} {caps : List AV} {m : List AV → Option (AV × List Blk)} {as : List AV} {x : AV} {Hr : List Blk}
    (hK : CtxOk P C G) (ht : TRel ds S H pl tmps a) (h : WRel A G B w0 S H pl w) (ho : o.op = .call c) (hc : c.callee = .value f) (hf : evA tmps f = .fn n caps) (hm : C.m n = some m)
    (ha : AV.vals H (c.args.toList.map (evA tmps) ++ caps) = some as) (hr : m as = some (x, Hr)) (hflat : ((x.flo && Hr.all Blk.flat) || AV.hbs 0 (c.args.toList.map (evA tmps) ++ caps)) = true)
    (next : Act → World → Prop) (Q : Exit → Act → World → Prop)
    (k : ∀ u S' plr w', S.le S' → (∀ a u, S' a = some u → a.block < w.heap.size → S a = some u) → WRel noA G w.heap.size w S' Hr plr w' → Rep S' Hr plr x u → next (a.put o.dst u) w') : o.wp P a w next Q := by
  obtain ⟨hM, fn, hn, hb, hname⟩ := hK.m n m hm
  have hff := ht.ev f
  rw [hf] at hff
  obtain ⟨us, hu, hcap⟩ := hff.fn_inv
  have hargs := (evs_args ht c.args.toList).append hcap
  unfold Oper.wp
  rw [exec_call ho hc hu hn hb hname, Oper.upon_enter]
  have e1 : c.args.map a.eval ++ us.toArray = (c.args.toList.map a.eval ++ us).toArray := by
    rw [← List.append_toArray]
    congr 1
    rw [← List.map_toArray, Array.toArray_toList]
  rw [e1]
  by_cases hv : AV.hbs 0 (c.args.toList.map (evA tmps) ++ caps) = true
  · refine (hM S w _ _ x Hr (hbs_weak _ hv ha (hbs_val _ hv hargs)) h.imm h.g hr).mono ?_
    rintro e w' ⟨u, S', plr, rfl, hS, hsep, hW, hR⟩
    exact k u S' _ w' hS hsep hW hR
  · have hfl : (x.flo && Hr.all Blk.flat) = true := by simpa [hv] using hflat
    rw [Bool.and_eq_true] at hfl
    refine (hM (lend S H pl w) w _ _ x Hr (vals_rep h _ ha hargs) (lend_imm h) h.g hr).mono ?_
    rintro e w' ⟨u, S', plr, rfl, hS, hsep, hW, hR⟩
    have hW' := h.unlend hfl.2 hW
    exact k u S _ w' S.le_refl (fun _ _ e _ => e) hW' (flo_rep x hfl.1 hR)
theorem call_m {tmps : List AV} {a : Act} {o : Oper} {c : Call} {f : Operand} {n : Nat} {caps : List AV} {m : List AV → Option (AV × List Blk)} {as : List AV} {x : AV} {Hr : List Blk}
    (hK : CtxOk P C G) (ht : TRel ds S H pl tmps a) (h : WRel A G B w0 S H pl w) (ho : o.op = .call c) (hc : c.callee = .value f) (hf : evA tmps f = .fn n caps) (hm : C.m n = some m)
    (ha : AV.vals H (c.args.toList.map (evA tmps) ++ caps) = some as) (hr : m as = some (x, Hr)) (hflat : ((x.flo && Hr.all Blk.flat) || AV.hbs 0 (c.args.toList.map (evA tmps) ++ caps)) = true) :
    OpW P A G B w0 o a S H pl w (x.shift H.length) (H ++ Hr.map (Blk.shift H.length)) := fun next Q k =>
  call_any hK ht h ho hc hf hm ha hr hflat next Q fun u S' plr w' hS hsep hW hR => k u S' _ w' (join_ext hS fun a u e => if hb : a.block < w.heap.size then .inl (hsep a u e hb) else .inr (Nat.le_trans h.base (Nat.le_of_not_lt hb))) (h.join hS hsep hW) (shift_rep x hR)

theorem join_nil : H ++ ([] : List Blk).map (Blk.shift H.length) = H := by simp
mutual
theorem shift_hb (n : Nat) : (x : AV) → AV.hb 0 x = true → x.shift n = x
  | .any, _ => rfl
  | .v _, _ => rfl
  | .lst _ _ _ _, _ => rfl
  | .ept _, _ => rfl
  | .z _ _, _ => rfl
  | .own _ _, h => by simp [AV.hb] at h
  | .gpt _ _ _ _, h => by simp [AV.hb] at h
  | .ptr _ _, h => by simp [AV.hb] at h
  | .agg cs, h => by simp [AV.shift, shifts_hb n cs (by simpa [AV.hb] using h)]
  | .tup cs, h => by simp [AV.shift, shifts_hb n cs (by simpa [AV.hb] using h)]
  | .fn f cs, h => by simp [AV.shift, shifts_hb n cs (by simpa [AV.hb] using h)]
  | .ifc t x, h => by simp [AV.shift, shift_hb n x (by simpa [AV.hb] using h)]
theorem shifts_hb (n : Nat) : (cs : List AV) → AV.hbs 0 cs = true → AV.shifts n cs = cs
  | [], _ => rfl
  | x :: cs, h => by simp [AV.hbs] at h; simp [AV.shifts, shift_hb n x h.1, shifts_hb n cs h.2]
end

theorem idx_sound (hT : TdOk P C) (h : WRel A G B w0 S H pl w) {t e sz by_ : Nat} (htd : C.td t = .sl e sz by_) {x y : AV} {i : Int} {k : IntKind} {u : Value} (hx : Rep S H pl x u) (he : idxA sz x i H = some y) :
    ∃ r, (Instr.indexAt t u (.int k i)).run P w = .ok r w ∧ Rep S H pl y r := by
  obtain ⟨hu, h0, ⟨ti, z, hi, hs, hby, hz, hzs⟩, _⟩ := hT.sl t e sz by_ htd
  have hel : P.elem t = e := by simp [Program.elem, hu]
  have hrun : ∀ (a : Addr) (n cap : Nat), 0 ≤ i → i < n → (Instr.indexAt t (.slice (some a) n cap) (.int k i)).run P w = .ok (.pointer (some (a.add (i.toNat * sz)))) w := fun a n cap hi0 hi1 => by
    rw [run_indexAt_slice (P := P) w t a n cap k i (by rw [hel]; exact hu), if_pos ⟨hi0, hi1⟩, hel]
    simp [sizeOf, typeInfo, hi, hs]
  cases x with
  | lst s n m get =>
    simp only [idxA] at he
    by_cases hss : s = sz
    case neg => simp [hss] at he
    subst hss
    rw [if_pos rfl] at he
    split at he
    · rename_i hin
      obtain rfl := Option.some.inj he
      cases hx with
      | val _ _ r =>
        cases r with
        | nil => simp at hin; omega
        | lst _ _ _ _ a cap f hnm hn hl hS hr h1 =>
          have hlt : i.toNat < m := by omega
          refine ⟨_, hrun a n cap hin.1 hin.2, .val _ _ (.ept _ _ (f i.toNat) (fun j hj => ?_) (fun j x hxj => hr _ j x hlt hxj))⟩
          rw [hl _ hlt] at hj
          rw [Addr.add_add]
          exact hS _ j hlt hj
    · cases he
  | cut id ver n =>
    simp only [idxA] at he
    cases hH : H[id]? with
    | none => simp [hH] at he
    | some blk =>
      cases blk with
      | var cs => simp [hH] at he
      | dead => simp [hH] at he
      | grow e' s ver' bv es =>
        simp only [hH] at he
        split at he
        · rename_i hv
          obtain ⟨rfl, rfl, hle⟩ := hv
          split at he
          · rename_i hin
            obtain rfl := Option.some.inj he
            cases hx with
            | val _ _ r => cases r
            | cut _ _ _ _ hi' _ hk =>
              have := ((hk _ _ _ _ _ hH).2 rfl).2
              subst this
              cases hp : pl id with
              | none =>
                have := (h.h.grow id _ _ _ _ _ hH).2.2.1 hp
                subst this
                simp at hle
                omega
              | some bc =>
                obtain ⟨b, cap⟩ := bc
                refine ⟨_, hrun _ _ cap hin.1 hin.2, .gpt _ _ _ _ _ hi' rfl fun e2 s2 v2 bv2 es2 q => ?_⟩
                rw [hH] at q
                cases q
                refine ⟨Nat.le_refl _, fun _ => ⟨b, cap, hp, ?_⟩⟩
                rw [Addr.add_lit]
                simp
          · cases he
        · cases he
  | own id ver =>
    simp only [idxA] at he
    cases hH : H[id]? with
    | none => simp [hH] at he
    | some blk =>
      cases blk with
      | var cs => simp [hH] at he
      | dead => simp [hH] at he
      | grow e' s ver' bv es =>
        simp only [hH] at he
        split at he
        · rename_i hv
          obtain ⟨rfl, rfl⟩ := hv
          split at he
          · rename_i hin
            obtain rfl := Option.some.inj he
            cases hx with
            | val _ _ r => cases r
            | own _ _ _ hi' _ hk =>
              have := (hk _ _ _ _ _ hH).2 rfl
              subst this
              cases hp : pl id with
              | none =>
                have := (h.h.grow id _ _ _ _ _ hH).2.2.1 hp
                subst this
                simp at hin
                omega
              | some bc =>
                obtain ⟨b, cap⟩ := bc
                refine ⟨_, hrun _ _ cap hin.1 hin.2, .gpt _ _ _ _ _ hi' rfl fun e2 s2 v2 bv2 es2 q => ?_⟩
                rw [hH] at q
                cases q
                refine ⟨Nat.le_refl _, fun _ => ⟨b, cap, hp, ?_⟩⟩
                rw [Addr.add_lit]
                simp
          · cases he
        · cases he
  | _ => simp [idxA] at he

theorem op_move {tmps : List AV} {a : Act} {o : Oper} {x : Operand} (ht : TRel ds S H pl tmps a) (h : WRel A G B w0 S H pl w) (ho : o.op = .move x ∨ o.op = .assign x) : OpW P A G B w0 o a S H pl w (evA tmps x) H :=
  .still h (by rcases ho with ho | ho <;> simp [execOp, ho]) (ht.ev x)
theorem op_pick {tmps : List AV} {a : Act} {o : Oper} {c x y : Operand} {t : Bool} (ht : TRel ds S H pl tmps a) (h : WRel A G B w0 S H pl w) (ho : o.op = .pick c x y) (hc : evA tmps c = .v (.bool t)) : OpW P A G B w0 o a S H pl w (if t then evA tmps x else evA tmps y) H := by
  have hb := ht.ev c
  rw [hc] at hb
  have := hb.v_inv
  refine .still h (u := if t then a.eval x else a.eval y) (by simp [execOp, ho, this, asBool]) ?_
  cases t
  · exact ht.ev y
  · exact ht.ev x
theorem op_load {tmps : List AV} {a : Act} {o : Oper} {t : Nat} {x : Operand} {y : AV} (hT : TdOk P C) (ht : TRel ds S H pl tmps a) (h : WRel A G B w0 S H pl w) (ho : o.op = .load t x) (e : loadA C t (evA tmps x) H = some y) : OpW P A G B w0 o a S H pl w y H := by
  obtain ⟨r, hr, hy⟩ := load_sound hT h (ht.ev x) e
  exact .still h (by simp [execOp, ho, hr]) hy

theorem field_sound (hT : TdOk P C) {t f off s sz : Nat} {g : Bool} {fs : List (Nat × Nat × Bool)} {zs : List Value} {x y : AV} {u : Value} (hx : Rep S H pl x u)
    (htd : C.td t = .agg sz fs zs) (hf : fs[f]? = some (off, s, g)) (e : fieldA x off H = some y) : ∃ r, (Instr.fieldAt t u f).run P w = .ok r w ∧ Rep S H pl y r := by
  obtain ⟨flds, i, hu, hi, hsz, hzz, hzl, hpos, _, hfl, hfs⟩ := hT.agg t _ _ _ htd
  have hlt : f < flds.toList.length := by rw [hfl]; exact (List.getElem?_eq_some_iff.1 hf).1
  have hfg : flds[f]? = some flds[f] := Array.getElem?_eq_getElem (by simpa using hlt)
  obtain ⟨hoff, hs0, hle, ⟨i', hi', hsi⟩, _⟩ := hfs f _ off s g hfg hf
  have hrun : ∀ ad : Addr, (Instr.fieldAt t (.pointer (some ad)) f).run P w = .ok (.pointer (some (ad.add off))) w := fun ad => by
    have : i'.size ≠ 0 := by omega
    simp [Instr.fieldAt, run_underlying hu, hfg, Instr.sureAddr, fieldPlace, sizeOf, typeInfo, hi', this, hoff]
  cases x with
  | ptr k o' =>
    simp only [fieldA] at e
    cases hH : H[k]? with
    | none => simp [hH] at e
    | some blk =>
      cases blk <;> simp [hH] at e
      subst e
      cases hx with
      | val _ _ r => cases r
      | ptr _ _ _ hi _ hp =>
        obtain ⟨b, c, hpl, rfl⟩ := hp _ hH
        exact ⟨_, hrun _, .ptr _ _ _ hi rfl fun cs q => ⟨b, c, hpl, by rw [Addr.add_lit]⟩⟩
  | gpt id ver j o' =>
    simp only [fieldA] at e
    cases hH : H[id]? with
    | none => simp [hH] at e
    | some blk =>
      cases blk <;> simp [hH] at e
      obtain ⟨rfl, rfl⟩ := e
      cases hx with
      | val _ _ r => cases r
      | gpt _ _ _ _ _ hi _ hp =>
        obtain ⟨b, c, hpl, rfl⟩ := (hp _ _ _ _ _ hH).2 rfl
        refine ⟨_, hrun _, .gpt _ _ _ _ _ hi rfl fun e2 s2 v2 bv2 es2 q => ?_⟩
        rw [hH] at q
        cases q
        refine ⟨Nat.le_refl _, fun _ => ⟨b, c, hpl, ?_⟩⟩
        rw [Addr.add_lit, Nat.add_assoc]
  | ept cs =>
    simp only [fieldA, Option.some.injEq] at e
    subst e
    cases hx with
    | val _ _ r =>
      cases r with
      | ept _ ad fv hs hr =>
        refine ⟨_, hrun ad, .val _ _ (.ept _ _ (fun j => fv (off + j)) (fun j hj => ?_) (fun j x hxj => ?_))⟩
        · rw [Addr.add_add]
          exact hs _ (by simp at hj; omega)
        · rw [List.getElem?_drop] at hxj
          exact hr _ x hxj
  | _ => simp [fieldA] at e

theorem part_sound (hT : TdOk P C) {t f off s sz : Nat} {g : Bool} {fs : List (Nat × Nat × Bool)} {zs : List Value} {cs : List AV} {y : AV} {u : Value} (hx : Rep S H pl (.agg cs) u)
    (htd : C.td t = .agg sz fs zs) (hf : fs[f]? = some (off, s, g)) (hle : off + s ≤ cs.length) (e : partOf g ((cs.drop off).take s) = some y) : ∃ r, (Instr.field t u f).run P w = .ok r w ∧ Rep S H pl y r := by
  obtain ⟨flds, i, hu, hi, hsz, hzz, hzl, hpos, _, hfl, hfs⟩ := hT.agg t _ _ _ htd
  have hlt : f < flds.toList.length := by rw [hfl]; exact (List.getElem?_eq_some_iff.1 hf).1
  have hfg : flds[f]? = some flds[f] := Array.getElem?_eq_getElem (by simpa using hlt)
  obtain ⟨hoff, hs0, _, ⟨i', hi', hsi⟩, d, hd, hdr, hg1⟩ := hfs f _ off s g hfg hf
  obtain ⟨us, rfl, hc⟩ := hx.agg_inv
  have hc' := (hc.drop off).take s
  unfold partOf at e
  cases g with
  | true =>
    rw [if_pos rfl] at e
    obtain rfl := Option.some.inj e
    refine ⟨.agg ((us.drop off).take s).toArray, ?_, .agg _ _ hc'.1 hc'.2⟩
    have hagg : (isAgg flds[f].type).run P w = .ok true w := by
      unfold isAgg
      rw [Sem.run_bind, run_underlying hd w]
      cases d <;> simp_all
    have hex : us.toArray.extract off (off + s) = ((us.drop off).take s).toArray := by
      apply Array.ext'
      simp [List.drop_take]
    simp [Instr.field, run_underlying hu, hfg, asAgg, part, Sem.run_bind, hagg, sizeOf, typeInfo, hi', hsi, hoff, hex]
  | false =>
    rw [if_neg (by decide)] at e
    obtain rfl := hg1 rfl
    have hagg : (isAgg flds[f].type).run P w = .ok false w := by
      unfold isAgg
      rw [Sem.run_bind, run_underlying hd w]
      cases d <;> simp_all
    have hlo : off < cs.length := by omega
    have e1 : (cs.drop off).take 1 = [cs[off]] := by
      rw [List.drop_eq_getElem_cons hlo]
      rfl
    rw [e1] at e
    simp at e
    subst e
    have hget : cs[off]? = some cs[off] := List.getElem?_eq_getElem hlo
    obtain ⟨v, hv, hr⟩ := hc.get hget
    refine ⟨v, ?_, hr⟩
    simp [Instr.field, run_underlying hu, hfg, asAgg, part, Sem.run_bind, hagg, hoff, hv]

theorem RepV.lst_congr {S : Sto} {sz n m : Nat} {get get' : Nat → List AV} {u : Value} (h : RepV S (.lst sz n m get) u) (hg : ∀ i, i < m → get' i = get i) : RepV S (.lst sz n m get') u := by
  cases h with
  | nil => exact .nil _ _
  | lst _ _ _ _ a cap f hnm hn hl hS hr h1 =>
    exact .lst _ _ _ _ a cap f hnm hn (fun i hi => by rw [hg i hi]; exact hl i hi) hS (fun i j x hi hx => by rw [hg i hi] at hx; exact hr i j x hi hx) h1
theorem Rep.lst_congr {S : Sto} {H : List Blk} {pl : Pl} {sz n m : Nat} {get get' : Nat → List AV} {u : Value} (h : Rep S H pl (.lst sz n m get) u) (hg : ∀ i, i < m → get' i = get i) : Rep S H pl (.lst sz n m get') u := by
  cases h with
  | val _ _ h => exact .val _ _ (h.lst_congr hg)
theorem slice_sound (hT : TdOk P C) {t e sz by_ n m : Nat} (htd : C.td t = .sl e sz by_) {get : Nat → List AV} {u : Value} (hx : Rep S H pl (.lst sz n m get) u) {kl kh km : IntKind} {l h k : Int} (h0 : 0 ≤ l) (h1 : l ≤ h) (h2 : h ≤ k) (h3 : k ≤ m)
    (lo hi mx : Option Value) (hlo : lo = some (.int kl l) ∨ lo = none ∧ l = 0) (hhi : hi = some (.int kh h) ∨ hi = none ∧ h = n) (hmx : mx = some (.int km k) ∨ mx = none ∧ k = m) (hm : mx = none ∨ hi = some (.int kh h)) :
    ∃ r, (Instr.sliceAt t u lo hi mx).run P w = .ok r w ∧ Rep S H pl (.lst sz (h.toNat - l.toNat) (k.toNat - l.toNat) fun i => get (l.toNat + i)) r := by
  obtain ⟨hu, hs0, ⟨ti, z, hi', hs, _⟩, _⟩ := hT.sl t e sz by_ htd
  have hel : P.elem t = e := by simp [Program.elem, hu]
  have hu' : P.underlying t = some (.slice (P.elem t)) := by rw [hel]; exact hu
  have hsz : (sizeOf (P.elem t)).run P w = .ok sz w := by rw [hel]; simp [sizeOf, typeInfo, hi', hs]
  have hrun : ∀ (a : Option Addr) (cap : Nat), n ≤ m → m ≤ cap → ∃ c, k.toNat ≤ c ∧ c ≤ cap ∧ (Instr.sliceAt t (.slice a n cap) lo hi mx).run P w = .ok (sliced a l.toNat h.toNat c sz) w := fun a cap hnm hcap => by
    rw [run_sliceAt_slice w t _ _ _ _ hu']
    rcases hmx with rfl | ⟨rfl, rfl⟩
    · refine ⟨k.toNat, Nat.le_refl _, by omega, ?_⟩
      rcases hm with hm | rfl
      · cases hm
      rcases hlo with rfl | ⟨rfl, rfl⟩
      · rw [run_slice_lhm w t a n cap hu' kl kh km l h k h0 h1 h2 (by omega), hsz]; rfl
      · rw [run_slice_hm w t a n cap hu' kh km h k (by omega) h2 (by omega), hsz]; simp [Result.andThen]
    · refine ⟨cap, by omega, Nat.le_refl _, ?_⟩
      rcases hlo with rfl | ⟨rfl, rfl⟩ <;> rcases hhi with rfl | ⟨rfl, rfl⟩
      · rw [run_slice_lh w t a n cap hu' kl kh l h h0 h1 (by omega), hsz]; rfl
      · rw [run_slice_l w t a n cap hu' kl l h0 (by omega), hsz]; simp [Result.andThen]
      · rw [run_slice_h w t a n cap hu' kh h (by omega) (by omega), hsz]; rfl
      · rw [run_slice_all w t a n cap hu', hsz]; simp [Result.andThen]
  cases hx with
  | val _ _ r =>
    cases r with
    | nil =>
      obtain ⟨c, _, hc, e⟩ := hrun none 0 (Nat.le_refl _) (Nat.le_refl _)
      refine ⟨_, e, .val _ _ ?_⟩
      have e1 : h.toNat = 0 := by omega
      have e2 : l.toNat = 0 := by omega
      have e3 : k.toNat = 0 := by omega
      obtain rfl : c = 0 := by omega
      rw [e1, e2, e3]
      exact .nil _ _
    | lst _ _ _ _ a cap f hnm hn hl hS hr h1' =>
      obtain ⟨c, hc1, hc2, e⟩ := hrun (some a) cap hnm hn
      refine ⟨_, e, .val _ _ ?_⟩
      unfold sliced
      by_cases hc : c = l.toNat
      · rw [if_pos hc]
        have e1 : h.toNat - l.toNat = 0 := by omega
        have e2 : k.toNat - l.toNat = 0 := by omega
        rw [e1, e2]
        exact .lst _ _ _ _ a _ (fun _ _ => undef) (Nat.le_refl _) (Nat.zero_le _) (fun i hi => by omega) (fun i j hi => by omega) (fun i j x hi => by omega) (fun i j hi => by omega)
      · rw [if_neg hc]
        refine .lst _ _ _ _ (a.add (l.toNat * sz)) _ (fun i j => f (l.toNat + i) j) (by omega) (by omega) (fun i hi => hl _ (by omega)) (fun i j hi hj => ?_) (fun i j x hi hxj => hr _ j x (by omega) hxj) (fun i j hi hj => h1' _ j (by omega) hj)
        rw [Addr.add_add, ← Nat.add_assoc, ← Nat.add_mul]
        exact hS _ j (by omega) hj

theorem cutO_sound (hT : TdOk P C) (h : WRel A G B w0 S H pl w) {tmps : List AV} {a : Act} (ht : TRel ds S H pl tmps a) {t : Nat} {x y : AV} {hi : Option Operand} {u : Value} (hx : Rep S H pl x u) (e : cutO (C.td t) x (hi.map (evA tmps)) H = some y) :
    ∃ r, (Instr.sliceAt t u none (hi.map a.eval) none).run P w = .ok r w ∧ Rep S H pl y r := by
  unfold cutO at e
  split at e
  · rename_i d' x' hi' e0 sz by_ id ver k n htd hh
    split at e
    · rename_i e1 s v bv es hH
      split at e
      · rename_i hc
        obtain ⟨rfl, rfl, hn0, hn1⟩ := hc
        obtain rfl := Option.some.inj e
        obtain ⟨hu, h0, ⟨ti, z, hti, hs, hby, hz, hzs⟩, _⟩ := hT.sl t _ _ _ htd
        have hel : P.elem t = e0 := by simp [Program.elem, hu]
        have hu' : P.underlying t = some (.slice (P.elem t)) := by rw [hel]; exact hu
        have hsz : (sizeOf (P.elem t)).run P w = .ok s w := by rw [hel]; simp [sizeOf, typeInfo, hti, hs]
        have hhi : hi.map a.eval = some (.int k n) := by
          cases hi with
          | none => cases hh
          | some q =>
            have := ht.ev q
            rw [show evA tmps q = .v (.int k n) from Option.some.inj hh] at this
            rw [Option.map_some, this.v_inv]
        rw [hhi]
        obtain ⟨g1, g2, g3, _, xs, g5, _⟩ := h.h.grow id _ _ _ _ _ hH
        cases hx with
        | val _ _ r => cases r
        | own _ _ _ hi1 _ hk =>
          have := (hk _ _ _ _ _ hH).2 rfl
          subst this
          cases hp : pl id with
          | none =>
            obtain rfl := g3 hp
            have hn : n = 0 := by simp at hn1; omega
            subst hn
            refine ⟨_, (run_sliceAt_slice w t _ _ _ _ hu').trans ((run_slice_h w t none 0 0 hu' k 0 (by omega) (by omega)).trans (by rw [hsz]; rfl)), .cut _ _ _ _ hi1 rfl fun e2 s2 v2 bv2 es2 q => ?_⟩
            rw [hH] at q
            cases q
            exact ⟨Nat.le_refl _, fun _ => ⟨Nat.zero_le _, by rw [hp]; rfl⟩⟩
          | some bc =>
            obtain ⟨b, cap⟩ := bc
            have hcap : es.length ≤ cap := by
              rcases g5.2 with ⟨hq, hz⟩ | ⟨g, cap', cur, hq, _, _, hle, _⟩
              · rw [hz]; exact Nat.zero_le _
              · rw [hp] at hq; simp [slv] at hq; rw [hq.2]; exact hle
            refine ⟨_, (run_sliceAt_slice w t _ _ _ _ hu').trans ((run_slice_h w t (some ⟨b, 0, none⟩) es.length cap hu' k n hn0 (by omega)).trans (by rw [hsz]; rfl)), .cut _ _ _ _ hi1 (by unfold sliced; split <;> rfl) fun e2 s2 v2 bv2 es2 q => ?_⟩
            rw [hH] at q
            cases q
            refine ⟨Nat.le_refl _, fun _ => ⟨by omega, ?_⟩⟩
            rw [hp]
            unfold sliced slv
            by_cases hc0 : cap = 0
            · subst hc0
              have : n.toNat = 0 := by omega
              simp [this]
            · simp [Addr.add_lit, hc0]
      · cases e
    · cases e
  · cases e

/-! ### Equality -/
theorem plainsOf_rep : ∀ {cs : List AV} {us vs : List Value}, plainsOf cs = some vs → Cs (Rep S H pl) cs us → us = vs
  | [], us, vs, e, k => by simp [plainsOf] at e; subst e; exact k.nil_inv
  | x :: cs, us, vs, e, k => by
    obtain ⟨u, us', rfl, hx, kc⟩ := k.tail
    cases x <;> simp only [plainsOf] at e <;> try (cases e; done)
    cases hq : plainsOf cs with
    | none => simp [hq] at e
    | some ys =>
      simp [hq] at e
      subst e
      rw [hx.v_inv, plainsOf_rep hq kc]
theorem bytes_eq (a b : ByteArray) : (a == b) = decide (a = b) := by
  rw [beq_toListBytes, ByteArray.toList_eq, ByteArray.toList_eq]
  by_cases h : a = b
  · simp [h]
  · rw [decide_eq_false h]
    refine beq_eq_false_iff_ne.2 fun e => h ?_
    cases a
    cases b
    simp at e
    rw [e]
theorem scEq_sound {d : Nat} {t : TypeId} {k : Nat} {td : TypeDesc} {u v : Value} {b : Bool} (hd : P.underlying t = some td) (hk : kindOk k td) (e : scEq k u v = some b) :
    (Op.equalIn (d + 1) t u v).run P w = .ok b w := by
  unfold scEq at e
  split at e
  · split at e
    · rename_i hkk
      subst hkk
      obtain rfl := Option.some.inj e
      cases td <;> simp [kindOk] at hk
      simp only [Op.equalIn, Sem.run_bind, run_underlying hd, Result.andThen_ok, if_true, Sem.run_pure]
      rfl
    · cases e
  · obtain rfl := Option.some.inj e
    cases td <;> simp [kindOk] at hk
    simp only [Op.equalIn, Sem.run_bind, run_underlying hd, Result.andThen_ok, Sem.run_pure]
  · obtain rfl := Option.some.inj e
    cases td <;> simp [kindOk] at hk
    simp only [Op.equalIn, Sem.run_bind, run_underlying hd, Result.andThen_ok, Sem.run_pure, bytes_eq]
  · cases e
theorem scEq_one {k : Nat} {u v : Value} {b : Bool} (e : scEq k u v = some b) : True := trivial
theorem eqFields_flat (d : Nat) (xs ys : Array Value) : ∀ (fs : List Field) (ks : List Nat) (k : Nat) (us vs : List Value) (b : Bool), EqFlds P k fs ks →
    (∀ (j : Nat) u, us[j]? = some u → xs[k + j]? = some u) → (∀ (j : Nat) u, vs[j]? = some u → ys[k + j]? = some u) → scEqs ks us vs = some b → (Op.eqFields (d + 1) xs ys fs).run P w = .ok b w
  | [], [], k, us, vs, b, _, _, _, e => by
    cases us <;> cases vs <;> simp [scEqs] at e
    subst e
    rfl
  | [], _ :: _, k, us, vs, b, hf, _, _, e => hf.elim
  | _ :: _, [], k, us, vs, b, hf, _, _, e => hf.elim
  | f :: fs, x :: ks, k, us, vs, b, hf, hx, hy, e => by
    obtain ⟨hoff, hnm, ⟨d', hd, hk⟩, hrest⟩ := hf
    cases us with
    | nil => simp [scEqs] at e
    | cons u us =>
      cases vs with
      | nil => simp [scEqs] at e
      | cons v vs =>
        simp only [scEqs] at e
        cases h1 : scEq x u v with
        | none => simp [h1] at e
        | some b1 =>
          cases h2 : scEqs ks us vs with
          | none => simp [h1, h2] at e
          | some b2 =>
            simp [h1, h2] at e
            subst e
            have hrow : d'.isRow = false := by
              unfold kindOk at hk
              split at hk <;> simp_all
            have hagg : (isAgg f.type).run P w = .ok false w := by
              unfold isAgg
              rw [Sem.run_bind, run_underlying hd w]
              cases d' <;> simp_all
            have hx0 : xs[k]? = some u := hx 0 u rfl
            have hy0 : ys[k]? = some v := hy 0 v rfl
            have px : (part f.type xs f.offset).run P w = .ok u w := by simp only [part, Sem.run_bind, hagg, hoff, Result.andThen_ok, Bool.false_eq_true, if_false, hx0, Sem.run_pure]
            have py : (part f.type ys f.offset).run P w = .ok v w := by simp only [part, Sem.run_bind, hagg, hoff, Result.andThen_ok, Bool.false_eq_true, if_false, hy0, Sem.run_pure]
            have he : (Op.equalIn (d + 1) f.type u v).run P w = .ok b1 w := scEq_sound hd hk h1
            have ih := eqFields_flat d xs ys fs ks (k + 1) us vs b2 hrest
              (fun j z hz => by rw [show k + 1 + j = k + (j + 1) by omega]; exact hx (j + 1) z (by simpa using hz)) (fun j z hz => by rw [show k + 1 + j = k + (j + 1) by omega]; exact hy (j + 1) z (by simpa using hz)) h2
            simp only [Op.eqFields, if_pos hnm, Sem.run_bind, px, py, he, Result.andThen_ok]
            cases b1
            · simp
            · simpa using ih
theorem equal_flat {t : TypeId} (hK : CtxOk P C G) (ht : C.eqs t ≠ []) {us vs : List Value} {b : Bool} (e : scEqs (C.eqs t) us vs = some b) : (Op.equal t (.agg us.toArray) (.agg vs.toArray)).run P w = .ok b w := by
  obtain ⟨_, hp, flds, hu, hf⟩ := hK.eqs t ht
  have hfo : P.fieldsOf t = flds := by simp [Program.fieldsOf, hu]
  unfold Op.equal
  rw [show Op.maxDepth = (9998 + 1) + 1 from rfl, run_equalIn_struct w (9998 + 1) t _ _ (by rw [hfo]; exact hu) hp, hfo]
  exact eqFields_flat 9998 _ _ _ _ 0 us vs b hf (fun j u hu => by simpa using hu) (fun j u hu => by simpa using hu) e
theorem eqGuard_flat {t : TypeId} (hK : CtxOk P C G) (ht : C.eqs t ≠ []) (op : BinOp) (x y : Operand) (us vs : Array Value) : (eqGuard op t x y (.agg us) (.agg vs)).run P w = .ok () w := by
  obtain ⟨hg, _⟩ := hK.eqs t ht
  unfold eqGuard
  cases op <;> simp [Sem.run_bind, program, Sem.run, hg]
end
end Go.Proofs.Ytkifbcjmmkbilaa.Av
