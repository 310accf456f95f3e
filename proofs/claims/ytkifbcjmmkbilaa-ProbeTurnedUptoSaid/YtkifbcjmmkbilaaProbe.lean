/- Package probe: one behind an outcome; the probes behind each outcome handed out; one behind many. -/
import Derived.Test.YtkifbcjmmkbilaaProg
import Derived.WalkKit
import Derived.LoopTactic
import Derived.Tactics2
import Derived.Below
import Derived.Lib.Hide
import Derived.Outline
import Derived.Handy
import Derived.Lib.SmallJoins
import Derived.Laws.ResultCell
import Derived.Laws.Rows
import Derived.RangeFuncNested
import Derived.RangeFuncBound
import Derived.RangeFuncCalls
import Derived.RangeFuncLeaves
import Derived.Shelf.Abstract
import Derived.Shelf.RegionOpen
import Derived.OwnWalkIn
import Derived.TacticsInMore
import Derived.LoopNIn
import Derived.LoopIn
import Derived.Test.YtkifbcjmmkbilaaWWords
import Derived.Test.YtkifbcjmmkbilaaOpen
set_option linter.unusedVariables false
set_option linter.unusedSimpArgs false
namespace Go.Proofs.Ytkifbcjmmkbilaa.Prb
open Go.RowKit Go.Shelf Go.Open Go.Proofs.YtkifbcjmmkbilaaW.PrintWords
attribute [local go_sem] Oper.semAt_some

/-- A probe: good, bad, ready. -/
abbrev Pr := Int × Int × Bool
def cells (p : Pr) : Array Value := #[.int .i64 p.1, .int .i64 p.2.1, .bool p.2.2]
def enc (p : Pr) : Value := .agg (cells p)
def mayB (rise fall : Int) : Bool := decide (1 ≤ min rise fall) && decide (max rise fall ≤ 8)
def nextP (p : Pr) (ok : Bool) (rise fall : Int) : Pr :=
  if ok then (min (max p.1 0) (rise - 1) + 1, 0, p.2.2 || decide (min (max p.1 0) (rise - 1) + 1 = rise))
  else (0, min (max p.2.1 0) (fall - 1) + 1, p.2.2 && decide (min (max p.2.1 0) (fall - 1) + 1 ≠ fall))
/-- Behind many. -/
def allP (p : Pr) (l : List Bool) (rise fall : Int) : Pr := l.foldl (fun q ok => nextP q ok rise fall) p

theorem ret_bool (x y : Bool) (h : x = y) : Ending.returned (.bool x) = .returned (.bool y) := by rw [h]
theorem ret_probe (a b a' b' : Int) (c c' : Bool) (h1 : a = a') (h2 : b = b') (h3 : c = c') : Ending.returned (.agg #[.int .i64 a, .int .i64 b, .bool c]) = .returned (.agg #[.int .i64 a', .int .i64 b', .bool c']) := by rw [h1, h2, h3]
set_option maxRecDepth 100000 in
theorem may_calls (rise fall : Int) (w : World) : Calls Try.prog 19 #[.int .i64 rise, .int .i64 fall] w fun e w' => e = .returned (.bool (mayB rise fall)) ∧ w' = w := by
  go_enter Try.func19, Try.ntmps19
  go_wp2
  all_goals (go_ret; refine ⟨ret_bool _ _ ?_, rfl⟩; simp only [mayB]; rw [Bool.eq_iff_iff]; simp; try omega)
set_option maxRecDepth 100000 in
set_option maxHeartbeats 2000000 in
theorem next_calls (p : Pr) (ok : Bool) (rise fall : Int) (hm : mayB rise fall = true) (w : World) :
    Calls Try.prog 28 #[enc p, .bool ok, .int .i64 rise, .int .i64 fall] w fun e w' => e = .returned (enc (nextP p ok rise fall)) ∧ Below w.heap.size w w' := by
  obtain ⟨p1, p2, p3⟩ := p
  have h1 : 1 ≤ rise ∧ rise ≤ 8 ∧ 1 ≤ fall ∧ fall ≤ 8 := by
    simp only [mayB, Bool.and_eq_true, decide_eq_true_eq] at hm
    omega
  obtain ⟨h1, h2, h3, h4⟩ := h1
  clear hm
  simp only [enc, cells]
  go_enter Try.func28, Try.ntmps28
  cases ok with
  | true =>
    go_wp2
    all_goals (go_returns; refine ⟨ret_probe _ _ _ _ _ _ ?_ ?_ ?_, below_alloc (below_alloc (below_alloc (Below.refl _ _) _) _) _⟩ <;> (first | (simp [nextP]; done) | (simp [nextP]; omega) | (rw [Bool.eq_iff_iff]; simp [nextP]; omega)))
  | false =>
    go_wp2
    all_goals (go_returns; refine ⟨ret_probe _ _ _ _ _ _ ?_ ?_ ?_, below_alloc (below_alloc (below_alloc (Below.refl _ _) _) _) _⟩ <;> (first | (simp [nextP]; done) | (simp [nextP]; omega) | (rw [Bool.eq_iff_iff]; simp [nextP]; omega)))
/-- The probe behind the first k outcomes. -/
def st (p : Pr) (l : List Bool) (rise fall : Int) (k : Nat) : Pr := allP p (l.take k) rise fall
theorem st_succ (p : Pr) (l : List Bool) (rise fall : Int) (k : Nat) (h : k < l.length) : st p l rise fall (k + 1) = nextP (st p l rise fall k) (rdOf false l k) rise fall := by
  simp only [st, allP]
  rw [List.take_succ_eq_append_getElem h, List.foldl_append]
  simp [rdOf, h]
def encs (p : Pr) (l : List Bool) (rise fall : Int) (k : Nat) : Array Value := #[.int .i64 k, enc (st p l rise fall (k + 1))]
/-- What the iterator must find: its four boxes, and the outcomes. -/
def Base (LB PB RB FB : Nat) (A : Option Addr) (c : Nat) (p : Pr) (l : List Bool) (rise fall : Int) (k : Nat) (W : World) : Prop :=
  W.heap[LB]? = some (.cells #[.slice A l.length c] 24 (0, 0)) ∧ W.heap[PB]? = some (.cells (cells (st p l rise fall k)) 23 (0, 0)) ∧
  W.heap[RB]? = some (.cells #[.int .i64 rise] 3 (0, 0)) ∧ W.heap[FB]? = some (.cells #[.int .i64 fall] 3 (0, 0)) ∧ Kd.bool.C W A l.length l
/-- All but block PB lies as it lay. -/
structure But (PB : Nat) (W W2 : World) : Prop where
  os : W2.os = W.os
  tape : W2.tape = W.tape
  output : W2.output = W.output
  size : W.heap.size ≤ W2.heap.size
  block : ∀ b, b < W.heap.size → b ≠ PB → W2.heap[b]? = W.heap[b]?
theorem set3 {W : World} {B : Nat} {a b c : Value} {t : TypeId} (h : W.heap[B]? = some (.cells #[a, b, c] t (0, 0))) (a' b' c' : Value) :
    (((W.setCell ⟨B, 0, none⟩ a').setCell ⟨B, 1, none⟩ b').setCell ⟨B, 2, none⟩ c').heap[B]? = some (.cells #[a', b', c'] t (0, 0)) := by
  simp [World.setCell, Array.getElem?_modify, h]
theorem But.of_below {B : Nat} {W W2 : World} (h : Below W.heap.size W W2) : But B W W2 := ⟨h.os, h.tape, h.output, h.size, fun b hb _ => h.block b hb⟩
theorem But.set {B : Nat} {W W2 : World} (h : But B W W2) (i : Nat) (v : Value) : But B W (W2.setCell ⟨B, i, none⟩ v) :=
  ⟨h.os, h.tape, h.output, by simpa [World.setCell] using h.size, fun b hb hne => (Below.heap_setCell W2 ⟨B, i, none⟩ v b hne).trans (h.block b hb hne)⟩
def Step (PB : Nat) (p : Pr) (l : List Bool) (rise fall : Int) (k : Nat) (W W2 : World) : Prop :=
  (k < l.length → But PB W W2 ∧ W2.heap[PB]? = some (.cells (cells (st p l rise fall (k + 1))) 23 (0, 0))) ∧ (¬ k < l.length → W2 = W)
set_option maxRecDepth 100000 in
set_option maxHeartbeats 2000000 in
theorem steps1_open (LB PB RB FB : Nat) (A : Option Addr) (c : Nat) (p : Pr) (l : List Bool) (rise fall : Int) (hm : mayB rise fall = true) (n : Nat) (hl : l.length ≤ 9223372036854775807) :
    SeqOpen Fence.wide n Try.prog 27 #[.pointer (some ⟨LB, 0, none⟩), .pointer (some ⟨PB, 0, none⟩), .pointer (some ⟨RB, 0, none⟩), .pointer (some ⟨FB, 0, none⟩)] l.length
      (encs p l rise fall) (Base LB PB RB FB A c p l rise fall) (Step PB p l rise fall) := by
  intro y J J' Jx W hB hS hY h0
  refine callsIn_of_wp Try.func27 rfl trivial ?_ rfl
  simp only [Try.ntmps27, List.size_toArray, List.length_cons, List.length_nil, Nat.reduceAdd, Nat.reduceSub, Array.replicate_succ, Array.replicate_zero, List.push_toArray, List.append_toArray, List.nil_append, List.cons_append]
  have hb0 := hB 0 W h0
  obtain ⟨hL, hP, hR, hF, hC⟩ := hb0
  have cL := blk_cell hL 0
  have cR := blk_cell hR 0
  have cF := blk_cell hF 0
  gi_wp2
  gi_loopw [10] (fun i wr => ∃ k : Nat, k ≤ l.length ∧ i = .int .i64 k ∧ J k wr) (fun i _ => l.length - (intOf i).toNat)
  case atStart => exact ⟨0, Nat.zero_le _, rfl, h0⟩
  case round =>
    clear cL cR cF hL hP hR hF hC
    obtain ⟨k, hk, rfl, hj⟩ := hrel
    obtain ⟨hL, hP, hR, hF, hC⟩ := hB k wr hj
    by_cases hlt : k < l.length
    · obtain ⟨ad, rfl, hx⟩ := Kd.at_bool hC (k : Int) (by omega) (by omega)
      have hs := st_succ p l rise fall k hlt
      obtain ⟨⟨q1, q2, q3⟩, hq⟩ : ∃ q, st p l rise fall k = q := ⟨_, rfl⟩
      rw [hq] at hP hs
      obtain ⟨ok, hok⟩ : ∃ ok, rdOf false l (k : Int) = ok := ⟨_, rfl⟩
      rw [hok] at hx hs
      simp only [Int.toNat_natCast] at hx
      have C := fun w => next_calls (q1, q2, q3) ok rise fall hm w
      obtain ⟨⟨r1, r2, r3⟩, hr⟩ : ∃ r, nextP (q1, q2, q3) ok rise fall = r := ⟨_, rfl⟩
      rw [hr] at C hs
      simp only [enc, cells] at C hP
      have cP0 := blk_cell hP 0
      have cP1 := blk_cell hP 1
      have cP2 := blk_cell hP 2
      have cR := blk_cell hR 0
      have cF := blk_cell hF 0
      simp only [List.getElem?_toArray, List.getElem?_cons_zero, List.getElem?_cons_succ] at cP0 cP1 cP2 cR cF
      clear hq hr hok
      gi_wp2
      refine ⟨trivial, fun h => by simp [Fence.wide] at h, ?_⟩
      refine (callsIn_wide.2 (C _)).mono ?_
      rintro e w2 ⟨rfl, hb⟩
      have hPB : PB < wr.heap.size := (Array.getElem?_eq_some_iff.1 hP).1
      have hP2 := (hb.block PB hPB).trans hP
      clear cP0 cP1 cP2 cR cF hx C
      have cP0 := blk_cell hP2 0
      have cP1 := blk_cell hP2 1
      have cP2 := blk_cell hP2 2
      have fP0 := blk_frozen hP2 0
      have fP1 := blk_frozen hP2 1
      have fP2 := blk_frozen hP2 2
      simp only [List.getElem?_toArray, List.getElem?_cons_zero, List.getElem?_cons_succ] at cP0 cP1 cP2
      have hSt : Step PB p l rise fall k wr (((w2.setCell ⟨PB, 0, none⟩ (.int .i64 r1)).setCell ⟨PB, 1, none⟩ (.int .i64 r2)).setCell ⟨PB, 2, none⟩ (.bool r3)) :=
        ⟨fun _ => ⟨(((But.of_below hb).set 0 _).set 1 _).set 2 _, by rw [hs]; exact set3 hP2 _ _ _⟩, fun h => absurd hlt h⟩
      obtain ⟨fn, tmps, assign, body, hy, hR2⟩ := hY k _ hlt (hS k wr _ hlt hj hSt)
      simp only [encs, hs, enc, cells] at hy
      gi_wp2
      refine ⟨fun h => by simp [Fence.wide] at h, ?_⟩
      refine hR2.mono ?_
      rintro e W3 (⟨rfl, hJ3⟩ | ⟨rfl, hJx3⟩)
      · gi_wp2
        go_roundw
        case rel => exact ⟨k + 1, by omega, by go_num, hJ3⟩
        case measure => simp [intOf]; omega
      · gi_wp2
        refine bodyPost_ret (results_none rfl _ _ _) rfl ?_
        exact ⟨⟨_, rfl⟩, .inr ⟨k, W3, hlt, hJx3, fun h => absurd h (by omega), fun _ => rfl⟩⟩
    · obtain rfl : k = l.length := by omega
      gi_wp2
      go_end0
      exact ⟨⟨_, rfl⟩, .inl ⟨wr, hj, fun h => absurd h (by omega), fun _ => rfl⟩⟩
set_option maxRecDepth 100000 in
theorem steps_calls (p : Pr) (s : Value) (hs : s.oneCell' = true) (rise fall : Int) (w : World) :
    Calls Try.prog 20 #[enc p, s, .int .i64 rise, .int .i64 fall] w fun e w' =>
      e = .returned (.func (.func 27) #[] #[.pointer (some ⟨w.heap.size + 1, 0, none⟩), .pointer (some ⟨w.heap.size, 0, none⟩), .pointer (some ⟨w.heap.size + 2, 0, none⟩), .pointer (some ⟨w.heap.size + 3, 0, none⟩)]) ∧
      w' = (((w.alloc (.cells (cells p) 23)).alloc (.cells #[s] 24)).alloc (.cells #[.int .i64 rise] 3)).alloc (.cells #[.int .i64 fall] 3) := by
  obtain ⟨p1, p2, p3⟩ := p
  simp only [enc, cells]
  go_enter Try.func20, Try.ntmps20
  go_wp2
  go_ret
  exact ⟨rfl, rfl⟩
theorem all_no (p : Pr) (A : Option Addr) (c : Nat) (l : List Bool) (rise fall : Int) (hm : mayB rise fall = false) (w : World) :
    Calls Try.prog 9 #[enc p, .slice A l.length c, .int .i64 rise, .int .i64 fall] w fun e w' => e = .returned (.tuple #[enc (0, 0, false), .iface 48 (.int .i64 1)]) ∧ Below w.heap.size w w' := by
  obtain ⟨p1, p2, p3⟩ := p
  simp only [enc, cells]
  have C := fun w => may_calls rise fall w
  rw [hm] at C
  go_enter Try.func9, Try.ntmps9
  go_wp2_with fail
  refine (C _).mono ?_
  rintro e w2 ⟨rfl, rfl⟩
  go_wp2
  go_returns
  exact ⟨rfl, below_alloc (below_alloc (Below.refl _ _) _) _⟩
/-- A box speaks of cells alone. -/
theorem own_blk {β : Type} (B b : Nat) (t : TypeId) (f : β → Array Value) : OwnFrom B (fun s W => W.heap[b]? = some (.cells (f s) t (0, 0))) := fun s X Y row hs hg hr =>
  (hg.block b (Array.getElem?_eq_some_iff.1 hs).1 (fun e => by obtain ⟨_, o, ho, hc⟩ := hr b e.symm; rw [show X.heap[b]? = _ from hs] at ho; cases ho; cases hc)).trans hs
theorem results_row_tmp {P : Program} {fn : Func} {p u : Tmp} {ty : TypeId} (h : fn.results = #[.cell p ty, .tmp u]) (tmps : Array Value) (w : World) (g : Nat) (t : TypeId) (cs : Array Value) (fr : Nat × Nat) (d : TypeDesc)
    (hp : tmps.getD p undef = .pointer (some ⟨g, 0, none⟩)) (hg : w.heap[g]? = some (.cells cs t fr))
    (hu : P.underlying ty = some d) (hd : (match d with | .struct _ | .array _ _ => true | _ => false) = true) (hi : (P.info? ty).map (·.size) = some cs.size) :
    (results fn tmps).run P w = .ok (.tuple #[.agg cs, tmps.getD u undef]) w := by
  rw [results_cell_tmp h, hp]
  simp [asAddr, Result.andThen, run_loadVar_row w g t ty cs fr d hg hu hd hi]
theorem keeps_set3 {B : Nat} {W W2 : World} (h : KeepsFrom B W W2) (b : Nat) (x y z : Value) : KeepsFrom B W (((W2.setCell ⟨b, 0, none⟩ x).setCell ⟨b, 1, none⟩ y).setCell ⟨b, 2, none⟩ z) :=
  h.trans ((((KeepsOthers.setCell _ _ _).trans (KeepsOthers.setCell _ _ _)).trans (KeepsOthers.setCell _ _ _)).from B)
theorem far3 {W : World} {b k : Nat} (hne : k ≠ b) (x y z : Value) : (((W.setCell ⟨b, 0, none⟩ x).setCell ⟨b, 1, none⟩ y).setCell ⟨b, 2, none⟩ z).heap[k]? = W.heap[k]? :=
  ((Below.heap_setCell _ _ _ k hne).trans (Below.heap_setCell _ _ _ k hne)).trans (Below.heap_setCell _ _ _ k hne)
theorem below3 {B : Nat} {w W : World} (h : Below B w W) {b : Nat} (hb : B ≤ b) (x y z : Value) : Below B w (((W.setCell ⟨b, 0, none⟩ x).setCell ⟨b, 1, none⟩ y).setCell ⟨b, 2, none⟩ z) :=
  ((h.setCell (p := ⟨b, 0, none⟩) hb _).setCell (p := ⟨b, 1, none⟩) hb _).setCell (p := ⟨b, 2, none⟩) hb _
theorem six (h : Array Obj) (o0 o1 o2 o3 o4 o5 : Obj) :
    ((((((h.push o0).push o1).push o2).push o3).push o4).push o5)[h.size]? = some o0 ∧ ((((((h.push o0).push o1).push o2).push o3).push o4).push o5)[h.size + 1]? = some o1 ∧
    ((((((h.push o0).push o1).push o2).push o3).push o4).push o5)[h.size + 2]? = some o2 ∧ ((((((h.push o0).push o1).push o2).push o3).push o4).push o5)[h.size + 3]? = some o3 ∧
    ((((((h.push o0).push o1).push o2).push o3).push o4).push o5)[h.size + 4]? = some o4 ∧ ((((((h.push o0).push o1).push o2).push o3).push o4).push o5)[h.size + 5]? = some o5 := by
  refine ⟨?_, ?_, ?_, ?_, ?_, ?_⟩ <;> simp only [Array.getElem?_push, Array.size_push] <;> (repeat (first | rw [if_neg (by omega)] | rw [if_pos (by omega)])) <;> simp
/-- The six boxes of All: p, the result, and the iterator's four; q: what the caller's own box holds, r: what the iterator's. -/
def Boxes (w : World) (s : Value) (rise fall : Int) (q r : Nat → Pr) (k : Nat) (W : World) : Prop :=
  (((((W.heap[w.heap.size]? = some (.cells (cells (q k)) 23 (0, 0)) ∧ W.heap[w.heap.size + 1]? = some (.cells (cells (0, 0, false)) 23 (0, 0))) ∧
  W.heap[w.heap.size + 2]? = some (.cells (cells (r k)) 23 (0, 0))) ∧ W.heap[w.heap.size + 3]? = some (.cells #[s] 24 (0, 0))) ∧
  W.heap[w.heap.size + 4]? = some (.cells #[.int .i64 rise] 3 (0, 0))) ∧ W.heap[w.heap.size + 5]? = some (.cells #[.int .i64 fall] 3 (0, 0))) ∧ Below w.heap.size w W
theorem own_boxes (B : Nat) (w : World) (hB : w.heap.size ≤ B) (s : Value) (rise fall : Int) (q r : Nat → Pr) : OwnFrom B (Boxes w s rise fall q r) :=
  ((((((own_blk B _ _ _).and (own_blk B _ _ _)).and (own_blk B _ _ _)).and (own_blk B _ _ _)).and (own_blk B _ _ _)).and (own_blk B _ _ _)).and (ownFrom_below (Nat.le_refl _) hB)
set_option maxRecDepth 100000 in
set_option maxHeartbeats 2000000 in
theorem all_yes (p : Pr) (A : Option Addr) (c : Nat) (l : List Bool) (rise fall : Int) (hm : mayB rise fall = true) (w : World) (hC : Kd.bool.C w A l.length l) :
    Calls Try.prog 9 #[enc p, .slice A l.length c, .int .i64 rise, .int .i64 fall] w fun e w' => e = .returned (.tuple #[enc (allP p l rise fall), .nilIface]) ∧ Below w.heap.size w w' := by
  refine (callsIn_wide (n := 3)).1 ?_
  refine callsIn_of_wp_marks Try.func9 rfl trivial ?_ rfl
  simp only [Try.ntmps9, List.size_toArray, List.length_cons, List.length_nil, Nat.reduceAdd, Nat.reduceSub, Array.replicate_succ, Array.replicate_zero, List.push_toArray, List.append_toArray, List.nil_append, List.cons_append]
  obtain ⟨p1, p2, p3⟩ := p
  simp only [enc, cells]
  have C := fun w => may_calls rise fall w
  rw [hm] at C
  gi_wp2
  refine ⟨trivial, ?_⟩
  refine (callsIn_wide.2 (C _)).mono ?_
  rintro e w2 ⟨rfl, rfl⟩
  clear C
  have C := fun w => steps_calls (p1, p2, p3) (.slice A l.length c) rfl rise fall w
  simp only [enc, cells] at C
  gi_wp2
  refine ⟨trivial, ?_⟩
  refine (callsIn_wide.2 (C _)).mono ?_
  rintro e w2 ⟨rfl, rfl⟩
  clear C
  have hm1 := hC.2.1
  have hI0 : ∀ x, x = ((((((w.alloc (.cells #[.int .i64 p1, .int .i64 p2, .bool p3] 23)).alloc (.cells #[.int .i64 0, .int .i64 0, .bool false] 23)).alloc (.cells #[.int .i64 p1, .int .i64 p2, .bool p3] 23)).alloc (.cells #[.slice A l.length c] 24)).alloc (.cells #[.int .i64 rise] 3)).alloc (.cells #[.int .i64 fall] 3)) →
      x.heap.size = w.heap.size + 6 ∧ Boxes w (.slice A l.length c) rise fall (st (p1, p2, p3) l rise fall) (st (p1, p2, p3) l rise fall) 0 x := by
    rintro x rfl
    refine ⟨by simp, ⟨⟨⟨⟨⟨?_, ?_⟩, ?_⟩, ?_⟩, ?_⟩, ?_⟩, ?_⟩
    · exact (six w.heap _ _ _ _ _ _).1
    · exact (six w.heap _ _ _ _ _ _).2.1
    · exact (six w.heap _ _ _ _ _ _).2.2.1
    · exact (six w.heap _ _ _ _ _ _).2.2.2.1
    · exact (six w.heap _ _ _ _ _ _).2.2.2.2.1
    · exact (six w.heap _ _ _ _ _ _).2.2.2.2.2
    · exact below_alloc (below_alloc (below_alloc (below_alloc (below_alloc (below_alloc (Below.refl _ _) _) _) _) _) _) _
  gi_wp2
  obtain ⟨x, hx⟩ : ∃ x, x = ((((((w.alloc (.cells #[.int .i64 p1, .int .i64 p2, .bool p3] 23)).alloc (.cells #[.int .i64 0, .int .i64 0, .bool false] 23)).alloc (.cells #[.int .i64 p1, .int .i64 p2, .bool p3] 23)).alloc (.cells #[.slice A l.length c] 24)).alloc (.cells #[.int .i64 rise] 3)).alloc (.cells #[.int .i64 fall] 3)) := ⟨_, rfl⟩
  obtain ⟨hsz, hI⟩ := hI0 x hx
  rw [← hx]
  clear hI0 hx
  refine wpIn_rangeFunc_open rfl (by omega) (gf := 27) (lb := #[.pointer (some ⟨w.heap.size + 3, 0, none⟩), .pointer (some ⟨w.heap.size + 2, 0, none⟩), .pointer (some ⟨w.heap.size + 4, 0, none⟩), .pointer (some ⟨w.heap.size + 5, 0, none⟩)])
    rfl trivial (enters_of Try.func27 (by kernel_rfl) rfl)
    (steps1_open (w.heap.size + 3) (w.heap.size + 2) (w.heap.size + 4) (w.heap.size + 5) A c (p1, p2, p3) l rise fall hm _ hm1) (fun _ => rfl) ?step
    (Boxes w (.slice A l.length c) rise fall (st (p1, p2, p3) l rise fall) (st (p1, p2, p3) l rise fall))
    (Boxes w (.slice A l.length c) rise fall (st (p1, p2, p3) l rise fall) (fun k => st (p1, p2, p3) l rise fall (k + 1)))
    (fun _ _ _ => False) (fun _ _ _ => False)
    (fun k a' W => ∃ Bx, w.heap.size + 5 < Bx ∧ W.heap[Bx]? = some (.cells (cells (st (p1, p2, p3) l rise fall (k + 1))) 23 (0, 0)) ∧
      Boxes w (.slice A l.length c) rise fall (st (p1, p2, p3) l rise fall) (fun k => st (p1, p2, p3) l rise fall (k + 1)) k W ∧
      a' = { tmps := #[.agg #[.int .i64 p1, .int .i64 p2, .bool p3], .slice A l.length c, .int .i64 rise, .int .i64 fall, .pointer (some ⟨w.heap.size, 0, none⟩), undef, undef, undef, .pointer (some ⟨w.heap.size + 1, 0, none⟩), .nilIface, undef, .pointer (some ⟨Bx, 0, none⟩),
        .int .i64 rise, .int .i64 fall, .bool true, .bool false, undef, undef, .agg #[.int .i64 p1, .int .i64 p2, .bool p3], .slice A l.length c, .int .i64 rise, .int .i64 fall,
        .func (.func 27) #[] #[.pointer (some ⟨w.heap.size + 3, 0, none⟩), .pointer (some ⟨w.heap.size + 2, 0, none⟩), .pointer (some ⟨w.heap.size + 4, 0, none⟩), .pointer (some ⟨w.heap.size + 5, 0, none⟩)],
        .int .i64 k, enc (st (p1, p2, p3) l rise fall (k + 1)), undef, undef], defers := [] })
    (own_boxes _ w (by omega) _ _ _ _ _) (own_boxes _ w (by omega) _ _ _ _ _) (fun _ _ _ _ _ h => h.elim) (fun _ _ _ _ _ h => h.elim) ?ax hI ?base ?is ?assign ?body (fun _ _ _ _ h => h.elim) ?done (fun _ _ _ _ _ _ h => h.elim)
  case step =>
    rintro k X Y ⟨h1, h2⟩
    by_cases hk : k < l.length
    · obtain ⟨hb, _⟩ := h1 hk
      exact ⟨hb.size, fun j o hB hj _ => (hb.block j (Array.getElem?_eq_some_iff.1 hj).1 (by omega)).trans hj⟩
    · rw [h2 hk]
      exact KeepsFrom.refl _ _
  case ax =>
    rintro a' k X Y row ⟨Bx, h1, h2, h3, h4⟩ hg hr
    exact ⟨Bx, h1, own_blk (β := Nat) x.heap.size Bx _ (fun k => cells (st (p1, p2, p3) l rise fall (k + 1))) k X Y row h2 hg hr, own_boxes x.heap.size w (by omega) _ _ _ _ _ k X Y row h3 hg hr, h4⟩
  case base =>
    rintro k W ⟨⟨⟨⟨⟨⟨h1, h2⟩, h3⟩, h4⟩, h5⟩, h6⟩, h7⟩
    exact ⟨h4, h3, h5, h6, Kd.C_below hC h7⟩
  case is =>
    rintro k W W2 hk ⟨⟨⟨⟨⟨⟨h1, h2⟩, h3⟩, h4⟩, h5⟩, h6⟩, h7⟩ hs
    obtain ⟨hb, hp⟩ := hs.1 hk
    have q : ∀ (j : Nat) (o : Obj), W.heap[j]? = some o → j ≠ w.heap.size + 2 → W2.heap[j]? = some o := fun j o hj hne => (hb.block j (Array.getElem?_eq_some_iff.1 hj).1 hne).trans hj
    exact ⟨⟨⟨⟨⟨⟨q _ _ h1 (by omega), q _ _ h2 (by omega)⟩, hp⟩, q _ _ h4 (by omega)⟩, q _ _ h5 (by omega)⟩, q _ _ h6 (by omega)⟩,
      ⟨hb.os.trans h7.os, hb.tape.trans h7.tape, hb.output.trans h7.output, Nat.le_trans h7.size hb.size, fun j hj => (hb.block j (by have := h7.size; omega) (by omega)).trans (h7.block j hj)⟩⟩
  case assign =>
    intro y k W K hk hi hK
    have h6 := (Array.getElem?_eq_some_iff.1 hi.1.2).1
    obtain ⟨⟨r1, r2, r3⟩, hr⟩ : ∃ r, st (p1, p2, p3) l rise fall (k + 1) = r := ⟨_, rfl⟩
    simp only [encs, hr, enc, cells]
    gi_wp2
    exact hK _ _ ((KeepsOthers.alloc _ _).from _) ⟨W.heap.size, by omega, by rw [hr]; exact blk_new _ _, (own_boxes x.heap.size w (by omega) _ _ _ _ _).alloc _ hi, by simp only [hr, enc, cells]⟩
  case body =>
    rintro y k a' W hl hr hk ⟨Bx, h1, h2, h3, rfl⟩
    obtain ⟨⟨r1, r2, r3⟩, hr⟩ : ∃ r, st (p1, p2, p3) l rise fall (k + 1) = r := ⟨_, rfl⟩
    obtain ⟨⟨q1, q2, q3⟩, hq⟩ : ∃ r, st (p1, p2, p3) l rise fall k = r := ⟨_, rfl⟩
    obtain ⟨⟨⟨⟨⟨⟨b1, b2⟩, b3⟩, b4⟩, b5⟩, b6⟩, b7⟩ := h3
    rw [hr] at h2
    rw [hq] at b1
    simp only [hr, enc, cells] at h2 b1 ⊢
    have c0 := blk_cell h2 0
    have c1 := blk_cell h2 1
    have c2 := blk_cell h2 2
    have d0 := blk_cell b1 0
    have d1 := blk_cell b1 1
    have d2 := blk_cell b1 2
    have f0 := blk_frozen b1 0
    have f1 := blk_frozen b1 1
    have f2 := blk_frozen b1 2
    simp only [List.getElem?_toArray, List.getElem?_cons_zero, List.getElem?_cons_succ] at c0 c1 c2 d0 d1 d2
    gi_wp2
    refine ⟨keeps_set3 (KeepsFrom.refl _ _) _ _ _ _, ⟨⟨⟨⟨⟨⟨?_, ?_⟩, ?_⟩, ?_⟩, ?_⟩, ?_⟩, ?_⟩⟩
    · rw [hr]; exact set3 b1 _ _ _
    · exact (far3 (by omega) _ _ _).trans b2
    · exact (far3 (by omega) _ _ _).trans b3
    · exact (far3 (by omega) _ _ _).trans b4
    · exact (far3 (by omega) _ _ _).trans b5
    · exact (far3 (by omega) _ _ _).trans b6
    · exact below3 b7 (Nat.le_refl _) _ _ _
  case done =>
    rintro D W W2 hD hi hs W3 ⟨o, o', j, hDj, rfl, hj, ho⟩ hK
    obtain rfl := hs.2 (by omega)
    have hi3 := (own_boxes x.heap.size w (by omega) _ _ _ _ _).putObj (l := j) o' hi (by omega) hj ho
    obtain ⟨W3, hW3⟩ : ∃ W3, W2.putObj j o' = W3 := ⟨_, rfl⟩
    rw [hW3] at hi3 hK ⊢
    clear hj hW3 hs hi
    obtain ⟨⟨q1, q2, q3⟩, hq⟩ : ∃ r, allP (p1, p2, p3) l rise fall = r := ⟨_, rfl⟩
    have hq2 : st (p1, p2, p3) l rise fall l.length = (q1, q2, q3) := by rw [← hq]; simp [st]
    obtain ⟨⟨⟨⟨⟨⟨b1, b2⟩, b3⟩, b4⟩, b5⟩, b6⟩, b7⟩ := hi3
    rw [hq2] at b1
    simp only [cells] at b1 b2
    have c0 := blk_cell b1 0
    have c1 := blk_cell b1 1
    have c2 := blk_cell b1 2
    have d0 := blk_cell b2 0
    have d1 := blk_cell b2 1
    have d2 := blk_cell b2 2
    have f0 := blk_frozen b2 0
    have f1 := blk_frozen b2 1
    have f2 := blk_frozen b2 2
    simp only [List.getElem?_toArray, List.getElem?_cons_zero, List.getElem?_cons_succ] at c0 c1 c2 d0 d1 d2
    gi_wp2
    have b8 := set3 b2 (.int .i64 q1) (.int .i64 q2) (.bool q3)
    have b9 := below3 b7 (show w.heap.size ≤ w.heap.size + 1 by omega) (.int .i64 q1) (.int .i64 q2) (.bool q3)
    have hK4 := (far3 (W := W3) (b := w.heap.size + 1) (k := D) (by omega) (.int .i64 q1) (.int .i64 q2) (.bool q3)).trans hK
    refine ⟨by simp, .inl ⟨_, _, rfl, run_takeDeferred hK4, ?_⟩⟩
    refine ⟨_, results_row_tmp rfl _ _ (w.heap.size + 1) _ _ (0, 0) _ rfl ((World.putObj_heap_other (by omega)).trans b8) Try.underlying23 rfl rfl, ?_⟩
    exact ⟨by rw [hq]; rfl, b9.trans (belowK_b (w := w) (Nat.le_refl _) _ D _ _ (by omega) hK4 rfl rfl)⟩
theorem all_calls (p : Pr) (A : Option Addr) (c : Nat) (l : List Bool) (rise fall : Int) (w : World) (hC : Kd.bool.C w A l.length l) :
    Calls Try.prog 9 #[enc p, .slice A l.length c, .int .i64 rise, .int .i64 fall] w fun e w' =>
      e = .returned (if mayB rise fall then .tuple #[enc (allP p l rise fall), .nilIface] else .tuple #[enc (0, 0, false), .iface 48 (.int .i64 1)]) ∧ Below w.heap.size w w' := by
  by_cases hm : mayB rise fall = true
  · rw [if_pos hm]
    exact all_yes p A c l rise fall hm w hC
  · rw [if_neg hm]
    exact all_no p A c l rise fall (by simpa using hm) w
end Go.Proofs.Ytkifbcjmmkbilaa.Prb
