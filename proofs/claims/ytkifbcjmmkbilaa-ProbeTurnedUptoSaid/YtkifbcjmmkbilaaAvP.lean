/- Ways through code: where a test, a call, a loop turns out so, the code ends so; what must be so is told. -/
import Derived.Test.YtkifbcjmmkbilaaAvN
set_option linter.unusedVariables false
set_option linter.unusedSimpArgs false
namespace Go.Proofs.Ytkifbcjmmkbilaa.Av
open Go Go.RowKit
variable {P : Program} {C : Ctx}

/-- What is said ahead: a test's outcome, what a summary answers, what a function answers, where a loop ends. -/
inductive Or where
  | t (b : Bool)
  | c (r : AV) (Hr : List Blk)
  | f (r : AV) (H' : List Blk)
  | l (e : Ex) (s : St)
  | r (x : AV)
  | g (n m : Nat) (get : Nat → List AV)
  | e (cells : List AV)
  | s (cells : List AV) (es : List (List AV))
  | a (es : List (List AV))
  | u
  | b (r : Bool)
  | j (e : Ex) (s : St)
  | k

/-- What is asked for. -/
inductive Ask where
  | test (b : Bool)
  | op (o : Oper) (tmps : List AV) (H : List Blk)
  | loop (c : Code) (s : St)
  | fn (n : Nat)
  | draw
  | code
  | out
/-- What came of it: behind it the rest of what is said, and what must be so; or what is asked. -/
inductive Rs (α : Type) where
  | ok (a : α) (os : List Or) (ps : List Prop)
  | no (q : Ask)

def All (ps : List Prop) : Prop := ∀ p ∈ ps, p
theorem All.nil : All [] := fun p h => by cases h
theorem All.cons {p : Prop} {ps : List Prop} (h : p) (k : All ps) : All (p :: ps) := fun q hq => by
  rcases List.mem_cons.1 hq with rfl | hq
  · exact h
  · exact k q hq
theorem All.head {p : Prop} {ps : List Prop} (h : All (p :: ps)) : p := h p List.mem_cons_self
theorem All.tail {p : Prop} {ps : List Prop} (h : All (p :: ps)) : All ps := fun q hq => h q (List.mem_cons_of_mem _ hq)
theorem All.left {ps qs : List Prop} (h : All (ps ++ qs)) : All ps := fun p hp => h p (List.mem_append.2 (.inl hp))
theorem All.right {ps qs : List Prop} (h : All (ps ++ qs)) : All qs := fun p hp => h p (List.mem_append.2 (.inr hp))

/-- A part of a list: what it is (told), and what must hold. -/
def sliceP (d : TD) (x : AV) (lo hi mx : Option AV) (os : List Or) : Option (AV × List Or × List Prop) :=
  match d, x with
  | .sl _ sz' _, .lst sz n m get => if sz = sz' ∧ (mx.isNone || hi.isSome) = true then match boundA 0 lo, boundA n hi, boundA m mx with
      | some l, some h, some k => match os with
        | .g n' m' get' :: os' => some (.lst sz n' m' (nrm m' get'), os', [0 ≤ l ∧ l ≤ h ∧ h ≤ k ∧ k ≤ m, h.toNat - l.toNat = n', k.toNat - l.toNat = m', ∀ i, i < m' → get (l.toNat + i) = get' i])
        | _ => none
      | _, _, _ => none else none
  | .one (.string _), .v (.string s) => if mx.isNone = true then match boundA 0 lo, boundA s.size hi with
      | some l, some h => some (.v (.string (s.extract l.toNat h.toNat)), os, [0 ≤ l ∧ l ≤ h ∧ h ≤ s.size])
      | _, _ => none else none
  | _, _ => none
theorem nrm_ext {m : Nat} {f g : Nat → List AV} (h : ∀ i, i < m → f i = g i) : nrm m f = nrm m g := by
  funext i
  unfold nrm
  split
  · rename_i hi; exact h i hi
  · rfl
theorem nrm_at {m i : Nat} {f : Nat → List AV} (h : i < m) : nrm m f i = f i := if_pos h
theorem sliceP_sound {d : TD} {x y : AV} {lo hi mx : Option AV} {os os' : List Or} {ps : List Prop} (e : sliceP d x lo hi mx os = some (y, os', ps)) (h : All ps) : sliceA d x lo hi mx = some y := by
  unfold sliceP at e
  unfold sliceA
  split at e
  · split at e
    · rename_i hc
      split at e
      · rename_i l h' k hl hh hk
        split at e
        · simp only [Option.some.injEq, Prod.mk.injEq] at e
          obtain ⟨rfl, rfl, rfl⟩ := e
          simp only [hl, hh, hk]
          rw [if_pos hc, if_pos h.head]
          have h1 := h.tail.head
          have h2 := h.tail.tail.head
          subst h1
          subst h2
          rw [nrm_ext h.tail.tail.tail.head]
        · cases e
      · cases e
    · cases e
  · split at e
    · rename_i hc
      split at e
      · rename_i l h' hl hh
        simp only [Option.some.injEq, Prod.mk.injEq] at e
        obtain ⟨rfl, rfl, rfl⟩ := e
        simp only [hl, hh]
        rw [if_pos hc, if_pos h.head]
      · cases e
    · cases e
  · cases e

/-- What lies in an element's cells, from a place on. -/
def loadC (d : TD) (c : List AV) (off : Nat) : Option AV := match d.ld with
  | .one _ => c[off]?
  | .agg sz _ _ => if off + sz ≤ c.length then some (.agg ((c.drop off).take sz)) else none
  | _ => none
theorem loadC_sound {t id ver i off e sz : Nat} {bv : Bool} {es : List (List AV)} {c : List AV} {H : List Blk} {y : AV} (hH : H[id]? = some (.grow e sz ver bv es)) (hc : es[i]? = some c) (h : loadC (C.td t) c off = some y) : loadA C t (.gpt id ver i off) H = some y := by
  unfold loadC at h
  unfold loadA
  split at h
  · rename_i z hz
    simp only [hz, hH, hc, if_true]
    exact h
  · rename_i sz' fs zs hz
    simp only [hz, hH, hc, if_true]
    exact h
  · cases h
def isAr : BinOp → Bool
  | .eql | .neq | .lss | .leq | .gtr | .geq => false
  | _ => true
def cutP (d : TD) (x : AV) (hi : Option AV) (H : List Blk) : Option (AV × List Prop) :=
  match d, x, hi with
  | .sl _ sz _, .own id ver, some (.v (.int _ n)) => match H[id]? with
    | some (.grow _ s v _ es) => if s = sz ∧ v = ver then some (.cut id ver n.toNat, [0 ≤ n ∧ n ≤ es.length]) else none
    | _ => none
  | _, _, _ => none
def cutPM (b : Bool) (d : TD) (x : AV) (hi : Option AV) (H : List Blk) : Option (AV × List Prop) := match b with
  | true => cutP d x hi H
  | false => none
theorem cutP_sound {d : TD} {x y : AV} {hi : Option AV} {H : List Blk} {ps : List Prop} (e : cutP d x hi H = some (y, ps)) (h : All ps) : cutO d x hi H = some y := by
  unfold cutP at e
  unfold cutO
  split at e
  · split at e
    · rename_i hH
      split at e
      · rename_i hc
        simp only [Option.some.injEq, Prod.mk.injEq] at e
        obtain ⟨rfl, rfl⟩ := e
        simp only [hH]
        rw [if_pos ⟨hc.1, hc.2, h.head.1, h.head.2⟩]
      · cases e
    · cases e
  · cases e
theorem cutP_none {d : TD} {x r : AV} {lo hi mx : Option AV} {H : List Blk} (e : cutP d x hi H = none) (hs : sliceA d x lo hi mx = some r) : cutO d x hi H = none := by
  unfold cutP at e
  unfold cutO
  split
  · simp only at e
    unfold sliceA at hs
    cases hs
  · rfl
theorem cutPM_sound {b : Bool} {d : TD} {x y : AV} {hi : Option AV} {H : List Blk} {ps : List Prop} (e : cutPM b d x hi H = some (y, ps)) (h : All ps) : cutM b d x hi H = some y := by
  cases b with
  | true => exact cutP_sound e h
  | false => cases e
theorem cutPM_none {b : Bool} {d : TD} {x r : AV} {lo hi mx : Option AV} {H : List Blk} (e : cutPM b d x hi H = none) (hs : sliceA d x lo hi mx = some r) : cutM b d x hi H = none := by
  cases b with
  | true => exact cutP_none e hs
  | false => rfl
/-- Quiet operations that ask: a choice, a place in a list, a part of a list; a number may be told. -/
def opT (C : Ctx) (P : Program) (tmps : List AV) (H : List Blk) (o : Oper) (os : List Or) : Option (AV × List Or × List Prop) :=
  match o.op with
  | .pick c a b => match evA tmps c, os with
    | .v (.bool t), .t x :: os => some (match x with | true => evA tmps a | false => evA tmps b, os, [t = x])
    | _, _ => none
  | .indexAddr t x i => match C.td t, evA tmps i with
    | .sl _ sz _, .v (.int _ n) => match evA tmps x with
      | .lst s m _ get => if s = sz then match os with
        | .e cs :: os' => some (.ept cs, os', [0 ≤ n ∧ n < m, get n.toNat = cs])
        | _ => some (.ept (get n.toNat), os, [0 ≤ n ∧ n < m]) else none
      | .own id ver => match H[id]? with
        | some (.grow _ s v _ es) => if ver = v ∧ s = sz then some (.gpt id ver n.toNat 0, os, [0 ≤ n ∧ n < es.length]) else none
        | _ => none
      | .cut id ver k => match H[id]? with
        | some (.grow _ s v _ es) => if ver = v ∧ s = sz then some (.gpt id ver n.toNat 0, os, [k ≤ es.length, 0 ≤ n ∧ n < k]) else none
        | _ => none
      | _ => none
    | _, _ => none
  | .index t x i => match C.td t, evA tmps x, evA tmps i with
    | .one (.string _), .v (.string s), .v (.int _ n) => some (.v (.int .u8 (s.data.getD n.toNat 0).toNat), os, [0 ≤ n ∧ n < s.size])
    | _, _, _ => none
  | .slice t x lo hi mx => match zeroCut lo hi mx with
    | true => match zeroA (C.td t) (evA tmps x) H with
      | some y => some (y, os, [])
      | none => none
    | false => match cutPM (cutIs C.cu lo mx) (C.td t) (evA tmps x) (hi.map (evA tmps)) H with
      | some (y, ps) => some (y, os, ps)
      | none => match sliceP (C.td t) (evA tmps x) (lo.map (evA tmps)) (hi.map (evA tmps)) (mx.map (evA tmps)) os with
        | some (y, os', ps) => some (y, os', ps)
        | none => none
  | .load t x => match evA tmps x, os with
    | .gpt id ver i off, .e c :: os' => match H[id]? with
      | some (.grow _ _ v _ es) => if ver = v then match loadC (C.td t) c off with
        | some y => some (y, os', [es[i]? = some c])
        | none => none else none
      | _ => none
    | _, os => match evOpQ C P tmps H o with | some x => some (x, os, []) | none => none
  | .call c => match c.callee with
    | .builtin .len => match c.args.toList, c.argTypes.toList with
      | [x], [t] => match C.td t, evA tmps x, os with
        | .sl _ _ _, .own id ver, .r y :: os' => match lenA (.own id ver) H with
          | some n => some (y, os', [AV.v (.int .i64 n) = y])
          | none => none
        | _, _, os => match evOpQ C P tmps H o with | some x => some (x, os, []) | none => none
      | _, _ => none
    | _ => none
  | .binOp b t x y _ => match b, evA tmps x, evA tmps y with
    | .rem, .v (.int k n), .v (.int k' d) => if k = k' then some (.v (.int k (n.tmod d)), os, [d ≠ 0]) else none
    | .quo, .v (.int k n), .v (.int k' d) => if k = k' then some (.v (.int k (k.wrap (n.tdiv d))), os, [d ≠ 0]) else none
    | .add, .v (.string n), .v (.string d) => some (.v (.string (n ++ d)), os, [n.size + d.size ≤ 9223372036854775807])
    | _, _, _ => match isAr b, os with
      | false, .b r :: os' => match b with
        | .eql => some (.v (.bool r), os', [eqA C t (isConst x || isConst y) (evA tmps x) (evA tmps y) = some r])
        | .neq => some (.v (.bool (!r)), os', [eqA C t (isConst x || isConst y) (evA tmps x) (evA tmps y) = some r])
        | _ => none
      | _, os => match evOpQ C P tmps H o with | some x => some (x, os, []) | none => none
  | _ => none

theorem opT_sound {tmps : List AV} {H : List Blk} {o : Oper} {os os' : List Or} {x : AV} {ps : List Prop} (e : opT C P tmps H o os = some (x, os', ps)) (h : All ps) : evOpQ C P tmps H o = some x := by
  unfold opT at e
  split at e
  · rename_i c a b ho
    split at e
    · rename_i t y os1 hc
      simp only [Option.some.injEq, Prod.mk.injEq] at e
      obtain ⟨rfl, rfl, rfl⟩ := e
      have := h.head
      subst this
      simp only [evOpQ, ho, hc]
      cases t <;> rfl
    · cases e
  · rename_i t y i ho
    split at e
    · rename_i e' sz by' k n htd hi
      split at e
      · rename_i s m _ get hx
        split at e
        · rename_i hs
          split at e
          · simp only [Option.some.injEq, Prod.mk.injEq] at e
            obtain ⟨rfl, rfl, rfl⟩ := e
            simp only [evOpQ, ho, htd, hi, hx, idxA, hs, if_true]
            rw [if_pos h.head, h.tail.head]
          · simp only [Option.some.injEq, Prod.mk.injEq] at e
            obtain ⟨rfl, rfl, rfl⟩ := e
            simp only [evOpQ, ho, htd, hi, hx, idxA, hs, if_true]
            rw [if_pos h.head]
        · cases e
      · rename_i id ver hx
        split at e
        · rename_i e2 s v bv es hH
          split at e
          · rename_i hs
            simp only [Option.some.injEq, Prod.mk.injEq] at e
            obtain ⟨rfl, rfl, rfl⟩ := e
            simp only [evOpQ, ho, htd, hi, hx, idxA, hH]
            rw [if_pos hs, if_pos h.head]
          · cases e
        · cases e
      · rename_i id ver k2 hx
        split at e
        · rename_i e2 s v bv es hH
          split at e
          · rename_i hs
            simp only [Option.some.injEq, Prod.mk.injEq] at e
            obtain ⟨rfl, rfl, rfl⟩ := e
            simp only [evOpQ, ho, htd, hi, hx, idxA, hH]
            rw [if_pos ⟨hs.1, hs.2, h.head⟩, if_pos h.tail.head]
          · cases e
        · cases e
      · cases e
    · cases e
  · rename_i t y i ho
    split at e
    · rename_i z s k n htd hx hi
      simp only [Option.some.injEq, Prod.mk.injEq] at e
      obtain ⟨rfl, rfl, rfl⟩ := e
      simp only [evOpQ, ho, htd, hi, hx]
      rw [if_pos h.head]
    · cases e
  · rename_i t y lo hi mx ho
    split at e
    · rename_i hzc
      split at e
      · rename_i z hz
        simp only [Option.some.injEq, Prod.mk.injEq] at e
        obtain ⟨rfl, rfl, rfl⟩ := e
        simp only [evOpQ, ho, hzc, hz]
      · cases e
    · rename_i hzc
      split at e
      · rename_i z ps1 hz
        simp only [Option.some.injEq, Prod.mk.injEq] at e
        obtain ⟨rfl, rfl, rfl⟩ := e
        have hcc := cutPM_sound hz h
        simp only [evOpQ, ho, hzc, hcc]
      · rename_i hz
        split at e
        · rename_i z os1 ps1 hz2
          simp only [Option.some.injEq, Prod.mk.injEq] at e
          obtain ⟨rfl, rfl, rfl⟩ := e
          have hs2 := sliceP_sound hz2 h
          have hcc := cutPM_none hz hs2
          simp only [evOpQ, ho, hzc, hcc, hs2]
        · cases e
  · rename_i t y ho
    split at e
    · rename_i id ver i off c os1 hx
      split at e
      · rename_i e2 s v bv es hH
        split at e
        · rename_i hv
          subst hv
          split at e
          · rename_i z hz
            simp only [Option.some.injEq, Prod.mk.injEq] at e
            obtain ⟨rfl, rfl, rfl⟩ := e
            simp only [evOpQ, ho, hx]
            exact loadC_sound hH h.head hz
          · cases e
        · cases e
      · cases e
    · split at e
      · rename_i z hz
        simp only [Option.some.injEq, Prod.mk.injEq] at e
        obtain ⟨rfl, _, _⟩ := e
        exact hz
      · cases e
  · rename_i c ho
    split at e
    · rename_i hc
      split at e
      · rename_i y t hargs hts
        split at e
        · rename_i e1 sz1 by1 id ver y' os1 htd hx
          split at e
          · rename_i n hn
            simp only [Option.some.injEq, Prod.mk.injEq] at e
            obtain ⟨rfl, rfl, rfl⟩ := e
            simp only [evOpQ, ho, hc, hargs, hts, htd, hx, hn]
            rw [h.head]
          · cases e
        · split at e
          · rename_i z hz
            simp only [Option.some.injEq, Prod.mk.injEq] at e
            obtain ⟨rfl, _, _⟩ := e
            exact hz
          · cases e
      · cases e
    · cases e
  · rename_i b t y z t' ho
    split at e
    · rename_i k n k' d h1 h2
      split at e
      · rename_i hk
        simp only [Option.some.injEq, Prod.mk.injEq] at e
        obtain ⟨rfl, rfl, rfl⟩ := e
        simp only [evOpQ, ho, h1, h2, opS, if_pos (And.intro hk h.head)]
      · cases e
    · rename_i k n k' d h1 h2
      split at e
      · rename_i hk
        simp only [Option.some.injEq, Prod.mk.injEq] at e
        obtain ⟨rfl, rfl, rfl⟩ := e
        simp only [evOpQ, ho, h1, h2, opS, if_pos (And.intro hk h.head)]
      · cases e
    · rename_i n d h1 h2
      simp only [Option.some.injEq, Prod.mk.injEq] at e
      obtain ⟨rfl, rfl, rfl⟩ := e
      simp only [evOpQ, ho, h1, h2, opS, if_pos h.head]
    · split at e
      · split at e
        · simp only [Option.some.injEq, Prod.mk.injEq] at e
          obtain ⟨rfl, rfl, rfl⟩ := e
          simp only [evOpQ, ho, h.head]
        · simp only [Option.some.injEq, Prod.mk.injEq] at e
          obtain ⟨rfl, rfl, rfl⟩ := e
          simp only [evOpQ, ho, h.head]
        · cases e
      · split at e
        · rename_i y hy
          simp only [Option.some.injEq, Prod.mk.injEq] at e
          obtain ⟨rfl, _, _⟩ := e
          exact hy
        · cases e
  · cases e

def isT (o : Oper) : Bool := match o.op with
  | .pick .. | .indexAddr .. | .index .. | .slice .. | .binOp .. | .load .. => true
  | .call c => match c.callee with
    | .builtin .len => true
    | _ => false
  | _ => false

/-- A quiet operation on a way. -/
def opQP (C : Ctx) (P : Program) (tmps : List AV) (H : List Blk) (o : Oper) (os : List Or) : Option (AV × List Or × List Prop) :=
  if isT o then opT C P tmps H o os else
  match o.op, os with
  | .call c, .c r Hr :: os' => match c.callee with
    | .value f => match AV.val Hr r with
      | some y => some (y, os', [callMA C (evA tmps f) (c.args.toList.map (evA tmps)) H = some (r, Hr)])
      | none => none
    | _ => match evOpQ C P tmps H o with | some x => some (x, .c r Hr :: os', []) | none => none
  | _, os => match evOpQ C P tmps H o with | some x => some (x, os, []) | none => none
theorem opQP_sound {tmps : List AV} {H : List Blk} {o : Oper} {os os' : List Or} {x : AV} {ps : List Prop} (e : opQP C P tmps H o os = some (x, os', ps)) (h : All ps) : evOpQ C P tmps H o = some x := by
  unfold opQP at e
  split at e
  · exact opT_sound e h
  · split at e
    · rename_i c r Hr os1 ho
      split at e
      · rename_i f hc
        split at e
        · rename_i y hy
          simp only [Option.some.injEq, Prod.mk.injEq] at e
          obtain ⟨rfl, rfl, rfl⟩ := e
          simp only [evOpQ, ho, hc, h.head]
          exact hy
        · cases e
      · split at e
        · rename_i y hy
          simp only [Option.some.injEq, Prod.mk.injEq] at e
          obtain ⟨rfl, _, _⟩ := e
          exact hy
        · cases e
    · split at e
      · rename_i y hy
        simp only [Option.some.injEq, Prod.mk.injEq] at e
        obtain ⟨rfl, _, _⟩ := e
        exact hy
      · cases e

/-- What an append leaves, and what must fit. -/
def appendP (e sz bytes : Nat) (s x : AV) (H : List Blk) (os : List Or) : Option ((AV × List Blk) × List Or × List Prop) :=
  match appArg sz x H with
  | none => none
  | some (new, nbv) => match os with
    | .a es1 :: os' => match s with
      | .v (.slice none 0 0) => some ((.own H.length 0, H ++ [.grow e sz 0 nbv es1]), os', [es1.length * bytes ≤ 140737488355328 ∧ es1.length ≤ maxLen, new = es1])
      | .z true _ => some ((.own H.length 0, H ++ [.grow e sz 0 nbv es1]), os', [es1.length * bytes ≤ 140737488355328 ∧ es1.length ≤ maxLen, new = es1])
      | .own id ver => match H[id]? with
        | some (.grow e' s' ver' bv es) => if ver = ver' ∧ e = e' ∧ s' = sz then
            some ((.own id (ver + 1), H.set id (.grow e sz (ver + 1) (bv && nbv) es1)), os', [es1.length * bytes ≤ 140737488355328 ∧ es1.length ≤ maxLen, es ++ new = es1]) else none
        | _ => none
      | _ => none
    | .t true :: os' => match s with
      | .z false _ => some ((.z false sz, H), os', [decide (new.length = 0) = true])
      | _ => none
    | .t false :: .a es1 :: os' => match s with
      | .z false _ => some ((.own H.length 0, H ++ [.grow e sz 0 nbv es1]), os', [decide (new.length = 0) = false, es1.length * bytes ≤ 140737488355328 ∧ es1.length ≤ maxLen, new = es1])
      | _ => none
    | _ => none
theorem appendP_sound {e sz bytes : Nat} {s x : AV} {H : List Blk} {r : AV × List Blk} {os os' : List Or} {ps : List Prop} (q : appendP e sz bytes s x H os = some (r, os', ps)) (h : All ps) : appendA e sz bytes s x H = some r := by
  unfold appendP at q
  unfold appendA
  split at q
  · cases q
  · rename_i new nbv hn
    simp only [hn]
    split at q
    · split at q
      · simp only [Option.some.injEq, Prod.mk.injEq] at q
        obtain ⟨rfl, rfl, rfl⟩ := q
        have h2 := h.tail.head
        subst h2
        have h1 := h.head
        simp only []
        rw [if_pos h1]
        try rfl
      · simp only [Option.some.injEq, Prod.mk.injEq] at q
        obtain ⟨rfl, rfl, rfl⟩ := q
        have h2 := h.tail.head
        subst h2
        have h1 := h.head
        simp only []
        rw [if_pos h1]
        try rfl
      · rename_i id ver
        split at q
        · rename_i e' s' v bv es hH
          split at q
          · rename_i hv
            simp only [Option.some.injEq, Prod.mk.injEq] at q
            obtain ⟨rfl, rfl, rfl⟩ := q
            have h2 := h.tail.head
            subst h2
            have h1 := h.head
            rw [List.length_append] at h1
            simp only [hH]
            rw [if_pos ⟨hv.1, hv.2.1, hv.2.2, h1⟩]
          · cases q
        · cases q
      · cases q
    · split at q
      · simp only [Option.some.injEq, Prod.mk.injEq] at q
        obtain ⟨rfl, rfl, rfl⟩ := q
        simp only [h.head]
        try rfl
      · cases q
    · split at q
      · simp only [Option.some.injEq, Prod.mk.injEq] at q
        obtain ⟨rfl, rfl, rfl⟩ := q
        have h3 := h.tail.tail.head
        subst h3
        have h1 := h.tail.head
        simp only [h.head]
        rw [if_pos h1]
        try rfl
      · cases q
    · cases q

/-- A store into an element: what lies there, and the elements behind. -/
def storeP (C : Ctx) (t : Nat) (x y : AV) (H : List Blk) (os : List Or) : Option (List Blk × List Or × List Prop) :=
  match x, os with
  | .gpt id ver i off, .s c es1 :: os' => if 0 < y.cells.length ∧ y.cells.length = (C.td t).size ∧ y.cells.all AV.atom = true then match H[id]? with
      | some (.grow e sz ver' bv es) => if ver = ver' ∧ off + y.cells.length ≤ c.length then
          some (H.set id (.grow e sz ver (bv && AV.hbs 0 (y.cells.map dz)) es1), os', [es[i]? = some c, es.set i (splice c off (y.cells.map dz)) = es1]) else none
      | _ => none else none
  | _, os => match storeA C t x y H with | some H' => some (H', os, []) | none => none
theorem storeP_sound {t : Nat} {x y : AV} {H H' : List Blk} {os os' : List Or} {ps : List Prop} (q : storeP C t x y H os = some (H', os', ps)) (h : All ps) : storeA C t x y H = some H' := by
  unfold storeP at q
  split at q
  · split at q
    · rename_i hy
      split at q
      · rename_i e sz v bv es hH
        split at q
        · rename_i hv
          simp only [Option.some.injEq, Prod.mk.injEq] at q
          obtain ⟨rfl, rfl, rfl⟩ := q
          have h2 := h.tail.head
          subst h2
          unfold storeA
          simp only []
          rw [if_pos hy]
          simp only [hH, h.head]
          rw [if_pos hv.1, if_pos hv.2]
        · cases q
      · cases q
    · cases q
  · split at q
    · rename_i z hz
      simp only [Option.some.injEq, Prod.mk.injEq] at q
      obtain ⟨rfl, _, _⟩ := q
      exact hz
    · cases q

/-- A part of an own list: it is let go of. -/
def freezeP (C : Ctx) (tmps : List AV) (H : List Blk) (o : Oper) (os : List Or) : Option ((AV × List Blk) × List Or × List Prop) :=
  match o.op with
  | .slice t x lo hi mx => match zeroCut lo hi mx with
   | true => none
   | false => match maskA (cutIs C.cu lo mx) (evA tmps x) with
    | .own id ver => match AV.val H (.own id ver) with
      | some y => match sliceP (C.td t) y (lo.map (evA tmps)) (hi.map (evA tmps)) (mx.map (evA tmps)) os with
        | some (z, os', ps) => some ((z, H.set id .dead), os', ps)
        | none => none
      | none => none
    | _ => none
  | _ => none
theorem freezeP_sound {tmps : List AV} {H : List Blk} {o : Oper} {r : AV × List Blk} {os os' : List Or} {ps : List Prop} (e : freezeP C tmps H o os = some (r, os', ps)) (h : All ps) (g : Nat → List AV → List Blk → Option (AV × List Blk)) : evOpE C g tmps H o = some r := by
  unfold freezeP at e
  split at e
  · rename_i t x lo hi mx ho
    split at e
    · cases e
    · rename_i hzc
      split at e
      · rename_i id ver hx
        split at e
        · rename_i y hy
          split at e
          · rename_i z os1 ps1 hz
            simp only [Option.some.injEq, Prod.mk.injEq] at e
            obtain ⟨rfl, rfl, rfl⟩ := e
            simp only [evOpE, ho, hzc, hx, hy, sliceP_sound hz h]
          · cases e
        · cases e
      · cases e
  · cases e

/-- An operation on a way. -/
def opP (C : Ctx) (P : Program) (call : Nat → List AV → List Blk → List Or → Rs (AV × List Blk)) (tmps : List AV) (H : List Blk) (o : Oper) (os : List Or) : Rs (AV × List Blk) :=
  match freezeP C tmps H o os with
  | some (r, os', ps) => .ok r os' ps
  | none =>
  if isT o then match opT C P tmps H o os with | some (x, os', ps) => .ok (x, H) os' ps | none => .no (.op o tmps H) else
  match o.op with
  | .call c => match c.callee with
    | .builtin .append => match c.args.toList, c.argTypes.toList with
      | [s, x], [t, t'] => if t = t' then match C.td t with
        | .sl e sz bytes => match appendP e sz bytes (evA tmps s) (evA tmps x) H os with
          | some (r, os', ps) => .ok r os' ps
          | none => .no (.op o tmps H)
        | _ => .no (.op o tmps H) else .no (.op o tmps H)
      | _, _ => .no (.op o tmps H)
    | .value f => match evA tmps f with
      | .fn n caps => match C.m n with
        | some _ => match os with
          | .c r Hr :: os' => .ok (match takeV r Hr with | some y => (y, H) | none => (r.shift H.length, H ++ Hr.map (Blk.shift H.length))) os' [callMA C (.fn n caps) (c.args.toList.map (evA tmps)) H = some (r, Hr)]
          | _ => .no (.op o tmps H)
        | none => match os with
          | .f r H' :: os' => .ok (r, H') os' [Fn C P n (c.args.toList.map (evA tmps) ++ caps) H r H']
          | os => call n (c.args.toList.map (evA tmps) ++ caps) H os
      | _ => .no (.op o tmps H)
    | _ => match evOp C P (fun _ _ _ => none) tmps H o with | some r => .ok r os [] | none => .no (.op o tmps H)
  | .store t x y => match storeP C t (evA tmps x) (zsl (C.td t) (evA tmps y)) H os with
    | some (H', os', ps) => .ok (.any, ownB C.oz H') os' ps
    | none => .no (.op o tmps H)
  | _ => match evOp C P (fun _ _ _ => none) tmps H o with | some r => .ok r os [] | none => .no (.op o tmps H)
theorem callLe_none (g : Nat → List AV → List Blk → Option (AV × List Blk)) : CallLe (fun _ _ _ => none) g := fun n args H r e => by cases e

def CallP (C : Ctx) (P : Program) (call : Nat → List AV → List Blk → List Or → Rs (AV × List Blk)) : Prop :=
  ∀ n args H os r H' os' ps, call n args H os = .ok (r, H') os' ps → All ps → Fn C P n args H r H'

theorem opT_E {tmps : List AV} {H : List Blk} {o : Oper} {os os' : List Or} {x : AV} {ps : List Prop} (e : opT C P tmps H o os = some (x, os', ps)) (h : isT o = true) (g : Nat → List AV → List Blk → Option (AV × List Blk)) : evOpE C g tmps H o = none := by
  cases ho : o.op with
  | slice t y lo hi mx =>
    simp only [evOpE, ho]
    cases hzc : zeroCut lo hi mx with
    | true => rfl
    | false =>
      simp only []
      cases hb : cutIs C.cu lo mx with
      | true => rfl
      | false =>
        simp only [maskA]
        cases hy : evA tmps y with
        | own id ver =>
          simp only [opT, ho, hzc, hy, hb, sliceP, cutPM] at e
          split at e
          · rename_i hq
            split at hq
            · rename_i hz; cases hz
            · rename_i hz; cases hz
            · cases hq
          · cases e
        | _ => rfl
  | call c =>
    simp only [isT, ho] at h
    cases hc : c.callee with
    | builtin b => cases b <;> simp only [hc] at h <;> first | (cases h; done) | simp only [evOpE, ho, hc]
    | _ => simp only [hc] at h; cases h
  | _ => first | (simp only [isT, ho] at h; cases h; done) | simp only [evOpE, ho]
theorem callMA_none {n : Nat} {caps args : List AV} {H : List Blk} (h : C.m n = none) : callMA C (.fn n caps) args H = none := by
  simp only [callMA, h]

theorem opP_sound {call : Nat → List AV → List Blk → List Or → Rs (AV × List Blk)} (hC : CallP C P call) {tmps : List AV} {H : List Blk} {o : Oper} {os os' : List Or} {r : AV × List Blk} {ps : List Prop} (e : opP C P call tmps H o os = .ok r os' ps) (h : All ps) : ∃ k, ∀ m, k ≤ m → evOp C P (evFn C (evCode C P m)) tmps H o = some r := by
  have plain : ∀ q, evOp C P (fun _ _ _ => none) tmps H o = some q → ∃ k, ∀ m, k ≤ m → evOp C P (evFn C (evCode C P m)) tmps H o = some q := fun q hq => ⟨0, fun m _ => evOp_mono (callLe_none _) hq⟩
  unfold opP at e
  split at e
  · rename_i q os1 ps1 hq
    simp only [Rs.ok.injEq] at e
    obtain ⟨rfl, rfl, rfl⟩ := e
    refine ⟨0, fun m _ => ?_⟩
    unfold evOp
    rw [freezeP_sound hq h]
  split at e
  · rename_i hT
    split at e
    · rename_i x os1 ps1 hx
      simp only [Rs.ok.injEq] at e
      obtain ⟨rfl, rfl, rfl⟩ := e
      refine ⟨0, fun m _ => ?_⟩
      unfold evOp
      rw [opT_E hx hT, opT_sound hx h]
    · cases e
  · split at e
    · rename_i c ho
      split at e
      · rename_i hc
        split at e
        · rename_i s x t t' hargs hts
          split at e
          · rename_i htt
            split at e
            · rename_i e' sz by' htd
              split at e
              · rename_i q os1 ps1 hq
                simp only [Rs.ok.injEq] at e
                obtain ⟨rfl, rfl, rfl⟩ := e
                refine ⟨0, fun m _ => ?_⟩
                unfold evOp
                simp only [evOpE, ho, hc, hargs, hts, htt, if_true]
                rw [← htt, htd]
                simp only [appendP_sound hq h]
              · cases e
            · cases e
          · cases e
        · cases e
      · rename_i f hc
        split at e
        · rename_i n caps hf
          split at e
          · split at e
            · simp only [Rs.ok.injEq] at e
              obtain ⟨rfl, rfl, rfl⟩ := e
              refine ⟨0, fun m _ => ?_⟩
              unfold evOp
              simp only [evOpE, ho, hc, hf, h.head]
              rename_i r1 Hr1 _ _ _
              cases takeV r1 Hr1 <;> rfl
            · cases e
          · rename_i hm
            have key : ∀ r : AV × List Blk, Fn C P n (c.args.toList.map (evA tmps) ++ caps) H r.1 r.2 → ∃ k, ∀ m, k ≤ m → evOp C P (evFn C (evCode C P m)) tmps H o = some r := fun r ⟨k, hk⟩ => ⟨k, fun m hm' => by
              unfold evOp
              simp only [evOpE, ho, hc, hf, callMA_none hm, evFn_le hm' _ _ _ _ hk]⟩
            split at e
            · simp only [Rs.ok.injEq] at e
              obtain ⟨rfl, rfl, rfl⟩ := e
              exact key (_, _) h.head
            · exact key r (hC _ _ _ _ _ _ _ _ e h)
        · cases e
      · split at e
        · rename_i q hq
          simp only [Rs.ok.injEq] at e
          obtain ⟨rfl, _, _⟩ := e
          exact plain _ hq
        · cases e
    · rename_i t' x' y' ho
      split at e
      · rename_i H' os1 ps1 hq
        simp only [Rs.ok.injEq] at e
        obtain ⟨rfl, rfl, rfl⟩ := e
        refine ⟨0, fun m _ => ?_⟩
        unfold evOp
        simp only [evOpE, ho, storeP_sound hq h]
      · cases e
    · split at e
      · rename_i q hq
        simp only [Rs.ok.injEq] at e
        obtain ⟨rfl, _, _⟩ := e
        exact plain _ hq
      · cases e
end Go.Proofs.Ytkifbcjmmkbilaa.Av
