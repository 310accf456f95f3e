/- What a row's reading of an argument tells, as the interpreter's values. -/
import Derived.Test.YtkifbcjmmkbilaaAvX
import Derived.SizedLaws
import Derived.ChangeSlices
import Derived.ChangeReads
set_option linter.unusedVariables false
namespace Go.Proofs.Ytkifbcjmmkbilaa.Av
open Go Go.RowKit Go.ChangeShapes Go.WideShapes

/-- What never turns while a law runs: all that is there at first. -/
def sto (w : World) : Sto := fun a => if a.block < w.heap.size then w.cell? a else none
theorem sto_imm {w : World} {a : Addr} {u : Value} (h : sto w a = some u) : w.cell? a = some u := by
  unfold sto at h
  split at h
  · exact h
  · cases h
theorem sto_of {w : World} {a : Addr} {u : Value} (h : w.cell? a = some u) : sto w a = some u := by
  have hb : a.block < w.heap.size := by
    unfold World.cell? at h
    split at h
    · rename_i hb; exact (Array.getElem?_eq_some_iff.1 hb).1
    · cases h
  unfold sto
  rw [if_pos hb]
  exact h

/-- A kind of values: how many cells, and what each holds. -/
structure Kv (α : Type) where
  sz : Nat
  enc : α → List AV
namespace Kv
def R {α : Type} (d : Kv α) (w : World) (x : α) (cs : List Value) : Prop := cs.length = d.sz ∧ (∀ u ∈ cs, u.oneCell' = true) ∧ Cs (RepV (sto w)) (d.enc x) cs
def int (k : IntKind) : Kv Int := ⟨1, eInt k⟩
def bool : Kv Bool := ⟨1, eBool⟩
def string : Kv ByteArray := ⟨1, eStr⟩
def pair {α β : Type} (a : Kv α) (b : Kv β) : Kv (α × β) := ⟨a.sz + b.sz, fun p => a.enc p.1 ++ b.enc p.2⟩
def slice {α : Type} [Inhabited α] (d : Kv α) : Kv (List α) := ⟨1, eLst d.sz d.enc []⟩
def iso {α β : Type} (d : Kv α) (e : β → List AV) : Kv β := ⟨d.sz, e⟩
theorem one {w : World} {x : AV} {u : Value} (h1 : u.oneCell' = true) (h : RepV (sto w) x u) : [u].length = 1 ∧ (∀ v ∈ [u], v.oneCell' = true) ∧ Cs (RepV (sto w)) [x] [u] :=
  ⟨rfl, fun v hv => by rw [List.mem_singleton.1 hv]; exact h1, Cs.one h⟩
end Kv
/-- Where a reading of type t succeeds, the cells hold a value of kind d, with Ok. -/
def Opens (P : Program) {α : Type} (d : Kv α) (t : TypeId) (Ok : α → Prop) : Prop :=
  ∀ {H : Type} (enc : TypeId × Value → H) (W : World) (fuel : Nat) (cs : List Value) (dat : DataW H) (ps : List MemPlace),
    DataW.trod enc P W 0 (fun _ => true) true fuel t cs = some (dat, ps) → (∀ n ∈ dat.weights P t, n ≤ reachBytes) → ∃ x, d.R W x cs ∧ Ok x

theorem opens_int {P : Program} {t : TypeId} {k : IntKind} (hu : P.underlying t = some (.int k)) : Opens P (Kv.int k) t (fun n => (Lit.int k n).wf = true) := by
  intro H enc W fuel cs dat ps h _
  cases fuel with
  | zero => simp [DataW.trod] at h
  | succ n =>
    rw [DataW.trod_step] at h
    simp only [DataW.trodStep, hu] at h
    match cs, h with
    | [.int k' m], h =>
      simp only at h
      split at h
      · rename_i hk
        obtain ⟨rfl, hw⟩ := hk
        exact ⟨m, Kv.one rfl (.v _), hw⟩
      · simp at h

theorem opens_bool {P : Program} {t : TypeId} (hu : P.underlying t = some .bool) : Opens P Kv.bool t (fun _ => True) := by
  intro H enc W fuel cs dat ps h _
  cases fuel with
  | zero => simp [DataW.trod] at h
  | succ n =>
    rw [DataW.trod_step] at h
    simp only [DataW.trodStep, hu] at h
    match cs, h with
    | [.bool b], _ => exact ⟨b, Kv.one rfl (.v _), trivial⟩

theorem opens_string {P : Program} {t : TypeId} (hu : P.underlying t = some .string) : Opens P Kv.string t (fun s => s.size ≤ 140737488351232) := by
  intro H enc W fuel cs dat ps h hw
  cases fuel with
  | zero => simp [DataW.trod] at h
  | succ n =>
    rw [DataW.trod_step] at h
    simp only [DataW.trodStep, hu] at h
    match cs, h with
    | [.string s], h =>
      simp only at h
      split at h
      · simp only [Option.some.injEq, Prod.mk.injEq] at h
        obtain ⟨rfl, rfl⟩ := h
        refine ⟨s, Kv.one rfl (.v _), ?_⟩
        have h1 := hw s.data.toList.length (by rw [DataW.weights]; exact List.mem_singleton.2 rfl)
        rw [Array.length_toList] at h1
        exact h1
      · simp at h

theorem mapM_choose {α β γ : Type} {f : α → Option β} {Q : α → β → γ → Prop} : ∀ {l : List α} {ys : List β}, l.mapM f = some ys → (∀ i y, y ∈ ys → f i = some y → ∃ x, Q i y x) →
    ∃ xs : List γ, xs.length = l.length ∧ ys.length = l.length ∧ ∀ (j : Nat) i, l[j]? = some i → ∃ y x, ys[j]? = some y ∧ xs[j]? = some x ∧ f i = some y ∧ Q i y x := by
  intro l
  induction l with
  | nil =>
    intro ys h _
    simp at h
    subst h
    exact ⟨[], rfl, rfl, fun j i hj => by simp at hj⟩
  | cons a l ih =>
    intro ys h hQ
    rw [List.mapM_cons] at h
    cases hf : f a with
    | none => simp [hf] at h
    | some y =>
      cases hr : l.mapM f with
      | none => simp [hf, hr] at h
      | some r =>
        simp [hf, hr] at h
        subst h
        obtain ⟨xs, h1, h2, h3⟩ := ih hr (fun i z hz hfi => hQ i z (List.mem_cons_of_mem _ hz) hfi)
        obtain ⟨x, hx⟩ := hQ a y List.mem_cons_self hf
        refine ⟨x :: xs, by simp [h1], by simp [h2], fun j i hj => ?_⟩
        cases j with
        | zero =>
          simp at hj
          subst hj
          exact ⟨y, x, rfl, rfl, hf, hx⟩
        | succ j =>
          simp only [List.getElem?_cons_succ] at hj ⊢
          exact h3 j i hj

theorem cells_get {w : World} {a : Addr} {n : Nat} {c : List Value} (h : w.cells? 0 a n = some c) : c.length = n ∧ ∀ i u, c[i]? = some u → w.cell? (a.add i) = some u := by
  unfold World.cells? at h
  rw [if_pos (Nat.zero_le _)] at h
  obtain ⟨xs, h1, h2, h3⟩ := mapM_choose (Q := fun _ _ (_ : Unit) => True) h (fun _ _ _ _ => ⟨(), trivial⟩)
  refine ⟨by simpa using h2, fun i u hi => ?_⟩
  have hlt : i < n := by
    have := (List.getElem?_eq_some_iff.1 hi).1
    simp at h2
    omega
  obtain ⟨y, _, hy, _, hf, _⟩ := h3 i i (by simp [hlt])
  rw [hi] at hy
  obtain rfl := Option.some.inj hy
  exact hf

theorem weightsAll_mem {H : Type} {P : Program} {e : TypeId} {l : List (DataW H)} {d : DataW H} (hd : d ∈ l) {n : Nat} (hn : n ∈ d.weights P e) : n ∈ DataW.weightsAll P e l := by
  induction l with
  | nil => simp at hd
  | cons a l ih =>
    simp only [DataW.weightsAll, List.mem_append]
    rcases List.mem_cons.1 hd with rfl | hd
    · exact .inl hn
    · exact .inr (ih hd)

theorem opens_slice {P : Program} {α : Type} [Inhabited α] {d : Kv α} {t e : TypeId} {Ok : α → Prop} (B : Nat) (hu : P.underlying t = some (.slice e)) (hc : P.cellsOf e = d.sz) (hB : P.bytesOf e = B) (he : Opens P d e Ok) :
    Opens P (Kv.slice d) t (fun xs => xs.length * B ≤ 140737488351232 ∧ xs.length ≤ 9223372036854775807 ∧ ∀ x ∈ xs, Ok x) := by
  intro H enc W fuel cs dat ps h hw
  cases fuel with
  | zero => simp [DataW.trod] at h
  | succ n =>
    rw [DataW.trod_step] at h
    simp only [DataW.trodStep, hu] at h
    match cs, h with
    | [.slice none 0 0], h => exact ⟨[], Kv.one rfl (.nil _ _), by simp, by simp, by simp⟩
    | [.slice (some a) len cap], h =>
      simp only at h
      split at h
      · rename_i hb
        obtain ⟨_, hlc, hcm⟩ := hb
        obtain ⟨elems, hel, h⟩ := Option.bind_eq_some_iff.1 h
        obtain ⟨rest, hrest, h⟩ := Option.map_eq_some_iff.1 h
        simp only [Prod.mk.injEq] at h
        obtain ⟨rfl, rfl⟩ := h
        have hlen := hw (((elems.map (·.1)).length + (rest.map (·.1)).length) * P.bytesOf e) (by simp [DataW.weights, hu])
        obtain ⟨xs, h1, h2, h3⟩ := mapM_choose (Q := fun i _ x => ∃ c, c.length = d.sz ∧ d.R W x c ∧ Ok x ∧ ∀ j u, c[j]? = some u → W.cell? (a.add (i * d.sz + j)) = some u) hel (by
          intro i y hy hf
          obtain ⟨c, hcs, hy2⟩ := Option.bind_eq_some_iff.1 hf
          obtain ⟨x, hK, hok⟩ := he enc W n c y.1 y.2 hy2 (fun m hm => hw m (by
            simp only [DataW.weights, hu, List.mem_cons, List.mem_append]
            exact .inr (.inl (weightsAll_mem (List.mem_map_of_mem hy) hm))))
          obtain ⟨hl, hg⟩ := cells_get hcs
          refine ⟨x, c, by rw [hl, hc], hK, hok, fun j u hj => ?_⟩
          have := hg j u hj
          rw [hc] at this
          rw [Addr.add_add] at this
          exact this)
        simp only [List.length_range] at h1 h2
        have hget : ∀ (j : Nat) p, xs[j]? = some p → ∃ c, c.length = d.sz ∧ d.R W p c ∧ Ok p ∧ ∀ i u, c[i]? = some u → W.cell? (a.add (j * d.sz + i)) = some u := by
          intro j p hj
          have hjl : j < len := by have := (List.getElem?_eq_some_iff.1 hj).1; omega
          obtain ⟨y, x, _, hx, _, hq⟩ := h3 j j (by simp [hjl])
          rw [hj] at hx
          obtain rfl := Option.some.inj hx
          exact hq
        have hmax : len ≤ 9223372036854775807 := by unfold maxLen at hcm; omega
        refine ⟨xs, Kv.one rfl ?_, ?_, by rw [h1]; exact hmax, fun x hx => ?_⟩
        · have hel : ∀ i, i < len → ∃ c, c.length = d.sz ∧ d.R W (xs.getD i default) c ∧ ∀ k u, c[k]? = some u → W.cell? (a.add (i * d.sz + k)) = some u := fun i hi => by
            have hx : xs[i]? = some (xs.getD i default) := by rw [List.getD_eq_getElem?_getD, List.getElem?_eq_getElem (by omega)]; rfl
            obtain ⟨c, hcl, hK, _, hg⟩ := hget i _ hx
            exact ⟨c, hcl, hK, hg⟩
          have hcell : ∀ i k, i < len → k < d.sz → ∃ c u, d.R W (xs.getD i default) c ∧ c[k]? = some u ∧ W.cell? (a.add (i * d.sz + k)) = some u := fun i k hi hk => by
            obtain ⟨c, hcl, hK, hg⟩ := hel i hi
            have hck : c[k]? = some c[k] := List.getElem?_eq_getElem (by omega)
            exact ⟨c, _, hK, hck, hg k _ hck⟩
          have hlen' : xs.length = len := h1
          suffices hsuf : RepV (sto W) (.lst d.sz len len fun i => d.enc (xs.getD i default)) (.slice (some a) len cap) by
            unfold lstOf
            rw [hlen', List.length_nil, Nat.add_zero]
            refine hsuf.lst_congr fun i hi => ?_
            rw [nrm_at hi, List.append_nil]
            rfl
          refine .lst d.sz len len _ a cap (fun i k => (W.cell? (a.add (i * d.sz + k))).getD undef) (Nat.le_refl _) hlc (fun i hi => ?_) (fun i k hi hk => ?_) (fun i k x hi hx => ?_) (fun i k hi hk => ?_)
          · obtain ⟨c, hcl, hK, _⟩ := hel i hi
            rw [← hK.2.2.1]; exact hK.1
          · obtain ⟨c, u, _, _, hu⟩ := hcell i k hi hk
            rw [hu]
            exact sto_of hu
          · obtain ⟨c, hcl, hK, hg⟩ := hel i hi
            have hk : k < c.length := by rw [hK.2.2.1]; exact (List.getElem?_eq_some_iff.1 hx).1
            have hck : c[k]? = some c[k] := List.getElem?_eq_getElem hk
            rw [hg k _ hck]
            exact hK.2.2.2 k x _ hx hck
          · obtain ⟨c, u, hK, hck, hu⟩ := hcell i k hi hk
            rw [hu]
            exact hK.2.1 u (List.mem_of_getElem? hck)
        · rw [h1, ← h2, ← hB]
          simp only [List.length_map] at hlen
          exact Nat.le_trans (Nat.mul_le_mul_right _ (Nat.le_add_right _ _)) hlen
        · obtain ⟨j, hj⟩ := List.mem_iff_getElem?.1 hx
          obtain ⟨_, _, _, hok, _⟩ := hget j x hj
          exact hok
      · simp at h

/-- The fields of a struct, one behind the other. -/
def OpensL (P : Program) {α : Type} (d : Kv α) (o : Nat) (fs : List (TypeId × Nat)) (Ok : α → Prop) : Prop :=
  ∀ {H : Type} (enc : TypeId × Value → H) (W : World) (fuel : Nat) (cs : List Value) (xs : List (DataW H × List MemPlace)),
    cs.length = o + d.sz → fs.mapM (fun f => DataW.trod enc P W 0 (fun _ => true) true fuel f.1 ((cs.drop f.2).take (P.cellsOf f.1))) = some xs →
    (∀ n ∈ DataW.weightsEach P (fs.map (·.1)) (xs.map (·.1)), n ≤ reachBytes) → ∃ x, d.R W x (cs.drop o) ∧ Ok x

theorem opensL_one {P : Program} {α : Type} {d : Kv α} {t : TypeId} {Ok : α → Prop} {o : Nat} (h : Opens P d t Ok) (hc : P.cellsOf t = d.sz) : OpensL P d o [(t, o)] Ok := by
  intro H enc W fuel cs xs hl hm hw
  rw [List.mapM_cons] at hm
  cases hf : DataW.trod enc P W 0 (fun _ => true) true fuel t ((cs.drop o).take (P.cellsOf t)) with
  | none => simp [hf] at hm
  | some y =>
    simp [hf] at hm
    subst hm
    obtain ⟨x, hK, hok⟩ := h enc W fuel _ y.1 y.2 hf (fun n hn => hw n (by simp [DataW.weightsEach, hn]))
    refine ⟨x, ?_, hok⟩
    rw [List.take_of_length_le (by rw [List.length_drop, hl, hc]; omega)] at hK
    exact hK

theorem opensL_cons {P : Program} {α β : Type} {a : Kv α} {b : Kv β} {t : TypeId} {Oa : α → Prop} {Ob : β → Prop} {o : Nat} {fs : List (TypeId × Nat)} (h : Opens P a t Oa) (hc : P.cellsOf t = a.sz) (hr : OpensL P b (o + a.sz) fs Ob) :
    OpensL P (Kv.pair a b) o ((t, o) :: fs) (fun x => Oa x.1 ∧ Ob x.2) := by
  intro H enc W fuel cs xs hl hm hw
  have hsz : (Kv.pair a b).sz = a.sz + b.sz := rfl
  rw [hsz] at hl
  rw [List.mapM_cons] at hm
  cases hf : DataW.trod enc P W 0 (fun _ => true) true fuel t ((cs.drop o).take (P.cellsOf t)) with
  | none => simp [hf] at hm
  | some y =>
    cases hfr : fs.mapM (fun f => DataW.trod enc P W 0 (fun _ => true) true fuel f.1 ((cs.drop f.2).take (P.cellsOf f.1))) with
    | none => simp [hf, hfr] at hm
    | some r =>
      simp [hf, hfr] at hm
      subst hm
      obtain ⟨x, hK, hok⟩ := h enc W fuel _ y.1 y.2 hf (fun n hn => hw n (by simp [DataW.weightsEach, hn]))
      obtain ⟨z, hKz, hokz⟩ := hr enc W fuel cs r (by omega) hfr (fun n hn => hw n (by simp only [List.map_cons, DataW.weightsEach, List.mem_append]; exact .inr hn))
      refine ⟨(x, z), ?_, hok, hokz⟩
      have hcs : cs.drop o = (cs.drop o).take (P.cellsOf t) ++ cs.drop (o + a.sz) := by rw [hc, ← List.drop_drop, List.take_append_drop]
      rw [hcs]
      refine ⟨by rw [List.length_append, hK.1, hKz.1]; rfl, fun u hu => ?_, Cs.append hK.2.2 hKz.2.2⟩
      rcases List.mem_append.1 hu with hu | hu
      · exact hK.2.1 u hu
      · exact hKz.2.1 u hu

theorem opens_struct {P : Program} {α β : Type} {d : Kv α} {e : β → List AV} {t : TypeId} {fs : Array Field} {Ok : α → Prop} (f : β → α) (g : α → β) (hfg : ∀ x, f (g x) = x) (he : ∀ x, e x = d.enc (f x)) (hu : P.underlying t = some (.struct fs)) (hc : P.cellsOf t = d.sz)
    (h : OpensL P d 0 (fs.toList.map fun x => (x.type, x.offset)) Ok) : Opens P (Kv.iso d e) t (fun y => Ok (f y)) := by
  intro H enc W fuel cs dat ps ht hw
  cases fuel with
  | zero => simp [DataW.trod] at ht
  | succ n =>
    rw [DataW.trod_step] at ht
    simp only [DataW.trodStep, hu] at ht
    split at ht
    · rename_i hlen
      obtain ⟨xs, hx, ht⟩ := Option.map_eq_some_iff.1 ht
      simp only [Prod.mk.injEq] at ht
      obtain ⟨rfl, rfl⟩ := ht
      obtain ⟨x, hK, hok⟩ := h enc W n cs xs (by rw [hlen, hc]; omega) (by rw [List.mapM_map]; exact hx) (fun m hm => hw m (by
        simp only [DataW.weights, hu]
        simpa [Function.comp_def] using hm))
      refine ⟨g x, ?_, show Ok (f (g x)) by rw [hfg]; exact hok⟩
      have hK' : d.R W x cs := by simpa using hK
      refine ⟨hK'.1, hK'.2.1, ?_⟩
      show Cs (RepV (sto W)) (e (g x)) cs
      rw [he, hfg]
      exact hK'.2.2
    · simp at ht

/-- An argument: its cells hold a value of the kind. -/
theorem open_arg {P : Program} {α : Type} {d : Kv α} {t : TypeId} {Ok : α → Prop} (h : Opens P d t Ok) {H : Type} {enc : TypeId × Value → H} {W : World} {v : Value} {dat : DataW H} {ps : List MemPlace} {ts : List TypeId} {ds : List (DataW H)} {j : Nat}
    (hsz : (DataW.weightsEach P ts ds).all (· ≤ reachBytes) = true) (ht : ts[j]? = some t) (hd : ds[j]? = some dat) (hr : DataW.Trod enc P W 0 (fun _ => true) true t v dat ps) : ∃ x, d.R W x v.cells.toList ∧ Ok x := by
  obtain ⟨fuel, hf⟩ := hr
  exact h enc W fuel _ dat ps hf (fun n hn => by simpa using List.all_eq_true.1 hsz n (DataW.weights_mem_each ht hd n hn))
theorem arg_agg {α : Type} {d : Kv α} {w : World} {x : α} {cs : Array Value} (h : d.R w x (Value.agg cs).cells.toList) : RepV (sto w) (.agg (d.enc x)) (.agg cs) := by
  have h2 : Cs (RepV (sto w)) (d.enc x) cs.toList := h.2.2
  have := RepV.agg (S := sto w) (d.enc x) cs.toList h2.1 h2.2
  rwa [Array.toArray_toList] at this
theorem arg_one {α : Type} {d : Kv α} {w : World} {x : α} {v : Value} {a : AV} (ha : d.enc x = [a]) (h : d.R w x [v]) : RepV (sto w) a v := by
  have h2 : Cs (RepV (sto w)) (d.enc x) [v] := h.2.2
  rw [ha] at h2
  exact h2.2 0 a v rfl rfl
/-- A summary of plain answers, out of what its calls are known to answer. -/
theorem models_of_calls {P : Program} {G : World → Prop} (hG : ∀ w w', G w → Below w.heap.size w w' → G w') {f : Nat} {m : List AV → Option (AV × List Blk)}
    (h : ∀ (S : Sto) (w : World) (as : List AV) (vs : List Value) (r : AV) (Hr : List Blk), Cs (RepV S) as vs → G w → m as = some (r, Hr) → ∃ u, r = .v u ∧ Hr = [] ∧ Calls P f vs.toArray w fun e w' => e = .returned u ∧ Below w.heap.size w w') : Models P G f m := by
  intro S w as vs r Hr hvs himm hg e
  obtain ⟨u, rfl, rfl, hc⟩ := h S w as vs r Hr hvs hg e
  refine hc.mono ?_
  rintro e w' ⟨rfl, hb⟩
  have hlt : ∀ a v, S a = some v → a.block < w.heap.size := fun a v e => by
    have := himm a v e
    unfold World.cell? at this
    split at this
    · rename_i hq; exact (Array.getElem?_eq_some_iff.1 hq).1
    · cases this
  refine ⟨u, S, fun _ => none, rfl, S.le_refl, fun _ _ e _ => e, ⟨⟨fun k cs e => by simp at e, fun k e sz ver bv es q => by simp at q, fun k k' b l => by obtain ⟨⟨x, hx, _⟩, _⟩ := l; simp at hx, fun a u e k l => by obtain ⟨⟨x, hx, _⟩, _⟩ := l; simp at hx⟩, fun a v e => ?_, hb, hb.size, hG _ _ hg hb, KeepsOthers.of_below hb, Avd.none _ _ _ _, fun _ h => h.elim⟩, .val _ _ (.v u)⟩
  rw [hb.cell (hlt a v e)]
  exact himm a v e
/-- .. where what lies told may be read. -/
theorem models_of_calls' {P : Program} {G : World → Prop} (hG : ∀ w w', G w → Below w.heap.size w w' → G w') {f : Nat} {m : List AV → Option (AV × List Blk)}
    (h : ∀ (S : Sto) (w : World) (as : List AV) (vs : List Value) (r : AV) (Hr : List Blk), Cs (RepV S) as vs → (∀ a u, S a = some u → w.cell? a = some u) → G w → m as = some (r, Hr) → ∃ u, r = .v u ∧ Hr = [] ∧ Calls P f vs.toArray w fun e w' => e = .returned u ∧ Below w.heap.size w w') : Models P G f m := by
  intro S w as vs r Hr hvs himm hg e
  obtain ⟨u, rfl, rfl, hc⟩ := h S w as vs r Hr hvs himm hg e
  refine hc.mono ?_
  rintro e w' ⟨rfl, hb⟩
  have hlt : ∀ a v, S a = some v → a.block < w.heap.size := fun a v e => by
    have := himm a v e
    unfold World.cell? at this
    split at this
    · rename_i hq; exact (Array.getElem?_eq_some_iff.1 hq).1
    · cases this
  refine ⟨u, S, fun _ => none, rfl, S.le_refl, fun _ _ e _ => e, ⟨⟨fun k cs e => by simp at e, fun k e sz ver bv es q => by simp at q, fun k k' b l => by obtain ⟨⟨x, hx, _⟩, _⟩ := l; simp at hx, fun a u e k l => by obtain ⟨⟨x, hx, _⟩, _⟩ := l; simp at hx⟩, fun a v e => ?_, hb, hb.size, hG _ _ hg hb, KeepsOthers.of_below hb, Avd.none _ _ _ _, fun _ h => h.elim⟩, .val _ _ (.v u)⟩
  rw [hb.cell (hlt a v e)]
  exact himm a v e
end Go.Proofs.Ytkifbcjmmkbilaa.Av
