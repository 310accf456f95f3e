/- labels.Matches, by hand: how many labels are in both, counted by going over them. -/
import Derived.Test.YtcchccdbkpidpaaAk9
import Derived.Test.YtcchccdbkpidpaaOpen
import Derived.WalkKit
import Derived.LoopTactic
import Derived.Tactics2
import Derived.Below
import Derived.Lib.Hide
import Derived.Outline
import Derived.Handy
import Derived.Laws.Rows
import Derived.RangeFuncNested
import Derived.RangeFuncBound
import Derived.RangeFuncCalls
import Derived.RangeFuncLeaves
import Derived.Shelf.Abstract
import Derived.Shelf.RegionOpen
import Derived.OwnWalkIn
import Derived.TacticsInMore
import Derived.LoopNIn
import Derived.LoopIn
set_option linter.unusedVariables false
set_option linter.unusedSimpArgs false
namespace Go.Proofs.Ytcchccdbkpidpaa.Ak
open Go Go.RowKit Go.Shelf Go.Open Go.Proofs.Ytcchccdbkpidpaa.Av Go.Proofs.Ytcchccdbkpidpaa.AvT Go.Proofs.Ytcchccdbkpidpaa.AvS
attribute [local go_sem] Oper.semAt_some

/-- What the iterator must find: its box, and the list in it. -/
structure Bx (b : Nat) (t : TypeId) (p : Option (Nat × Nat)) (ls : List Label) (W : World) : Prop where
  box : W.heap[b]? = some (.cells #[slv p ls.length] t (0, 0))
  nil : p = none → ls = []
  key : ∀ A c, p = some (A, c) → ∀ k, k < ls.length → W.cell? ⟨A, k * 2, none⟩ = some (.string (el ls k).Key)
  val : ∀ A c, p = some (A, c) → ∀ k, k < ls.length → W.cell? ⟨A, k * 2 + 1, none⟩ = some (.string (el ls k).Value)
theorem flat_key : ∀ (l : List Label) (k : Nat), k < l.length → ((l.map eLabel).flatten)[k * 2]? = some (.v (.string (el l k).Key))
  | [], k, h => by simp at h
  | x :: l, 0, h => rfl
  | x :: l, k + 1, h => by
    have := flat_key l k (by simpa using h)
    show (AV.v (.string x.Key) :: AV.v (.string x.Value) :: (l.map eLabel).flatten)[(k + 1) * 2]? = _
    rw [show (k + 1) * 2 = k * 2 + 1 + 1 by omega]
    simpa [el] using this
theorem flat_val : ∀ (l : List Label) (k : Nat), k < l.length → ((l.map eLabel).flatten)[k * 2 + 1]? = some (.v (.string (el l k).Value))
  | [], k, h => by simp at h
  | x :: l, 0, h => rfl
  | x :: l, k + 1, h => by
    have := flat_val l k (by simpa using h)
    show (AV.v (.string x.Key) :: AV.v (.string x.Value) :: (l.map eLabel).flatten)[(k + 1) * 2 + 1]? = _
    rw [show (k + 1) * 2 + 1 = k * 2 + 1 + 1 + 1 by omega]
    simpa [el] using this
theorem common_calls {S : Sto} {w : World} {a b l pa pb : List Label} {vs : List Value} (hl : labels_Common a b = some l) (hvs : Cs (RepV S) [lstOf 2 eLabel a pa, lstOf 2 eLabel b pb] vs) (himm : ∀ q u, S q = some u → w.cell? q = some u) (hg : G0 w) :
    Calls Try.prog 50 vs.toArray w fun e w' => ∃ bb t p, e = .returned (.func (.func 61) #[] #[.pointer (some ⟨bb, 0, none⟩)]) ∧ Bx bb t p l w' ∧ Below w.heap.size w w' ∧ w.heap.size ≤ bb ∧ l.length ≤ maxLen ∧ ∀ A c, p = some (A, c) → w.heap.size ≤ A := by
  have hF := labels_Common_fn pa pb a b l hl
  refine (whole_models hM ok_labels_Common hG0 _ S w _ vs _ _ hvs himm hg (whole_eq hF)).mono ?_
  rintro e w' ⟨u, S', plr, rfl, hS, hnew, hW, hR⟩
  obtain ⟨us, rfl, hus⟩ := hR.fn_inv
  obtain ⟨v, us', rfl, hv, hn⟩ := hus.tail
  obtain rfl := hn.nil_inv
  obtain ⟨bb, cc, us2, t, hp1, hB, hh, hcs, _⟩ := hW.h.var 1 [.own 0 0] rfl
  obtain ⟨u0, us3, rfl, hu0, hn2⟩ := hcs.tail
  obtain rfl := hn2.nil_inv
  obtain ⟨h0, hlen, hpn, _, xs, hrow, hxs, _⟩ := hW.h.grow 0 81 2 0 true (l.map eLabel) rfl
  have hv' : v = .pointer (some ⟨bb, 0, none⟩) := by
    cases hv with
    | val _ _ q => cases q
    | ptr i off u hi h1 k =>
      obtain ⟨b', c', e1, e2⟩ := k _ rfl
      rw [hp1] at e1
      obtain ⟨rfl, rfl⟩ := Prod.mk.inj (Option.some.inj e1)
      simpa using e2
  subst hv'
  have hu : u0 = slv (plr 0) l.length := by
    cases hu0 with
    | val _ _ q => cases q
    | own id ver u hi h1 k =>
      have := (k _ _ _ _ _ rfl).2 rfl
      simpa using this
  subst hu
  rw [List.length_map] at hrow
  refine ⟨bb, t, plr 0, rfl, ⟨hh, fun e => ?_, fun A c e k hk => ?_, fun A c e k hk => ?_⟩, hW.below, hB, ?_, fun A c e => ?_⟩
  · have := hpn e
    simpa using this
  · rcases hrow.2 with ⟨e1, e2⟩ | ⟨g, cap, cur, e1, _, hg', h1, h2, h3, h4⟩
    · omega
    · rw [e] at e1
      simp only [slv, Value.slice.injEq, Option.some.injEq, Addr.mk.injEq, and_true, true_and] at e1
      obtain ⟨rfl, rfl⟩ := e1
      have hx : xs[k * 2]? = some (.string (el l k).Key) := by
        have hlt : k * 2 < xs.length := by rw [hrow.1]; omega
        have := hxs.2 (k * 2) _ _ (flat_key l k hk) (List.getElem?_eq_getElem hlt)
        rw [List.getElem?_eq_getElem hlt, this.v_inv]
      rw [cell_of_row _ _ _ _ _ _ hg']
      rw [← h4, List.getElem?_take] at hx
      split at hx
      · simpa using hx
      · cases hx
  · rcases hrow.2 with ⟨e1, e2⟩ | ⟨g, cap, cur, e1, _, hg', h1, h2, h3, h4⟩
    · omega
    · rw [e] at e1
      simp only [slv, Value.slice.injEq, Option.some.injEq, Addr.mk.injEq, and_true, true_and] at e1
      obtain ⟨rfl, rfl⟩ := e1
      have hx : xs[k * 2 + 1]? = some (.string (el l k).Value) := by
        have hlt : k * 2 + 1 < xs.length := by rw [hrow.1]; omega
        have := hxs.2 (k * 2 + 1) _ _ (flat_val l k hk) (List.getElem?_eq_getElem hlt)
        rw [List.getElem?_eq_getElem hlt, this.v_inv]
      rw [cell_of_row _ _ _ _ _ _ hg']
      rw [← h4, List.getElem?_take] at hx
      split at hx
      · simpa using hx
      · cases hx
  · rcases hrow.2 with ⟨e1, e2⟩ | ⟨g, cap, cur, e1, _, hg', h1, h2, h3, h4⟩
    · omega
    · omega
  · rcases hrow.2 with ⟨e1, e2⟩ | ⟨g, cap, cur, e1, hbase, hg', h1, h2, h3, h4⟩
    · rw [e] at e1; simp [slv] at e1
    · rw [e] at e1
      simp only [slv, Value.slice.injEq, Option.some.injEq, Addr.mk.injEq, and_true, true_and] at e1
      rw [e1.1]
      exact hbase
theorem cell_set_other (W : World) (p q : Addr) (v : Value) (h : q.block ≠ p.block) : (W.setCell p v).cell? q = W.cell? q := by
  unfold World.cell?
  rw [Below.heap_setCell W p v q.block h]
def encsL (l : List Label) (k : Nat) : Array Value := #[.agg #[.string (el l k).Key, .string (el l k).Value]]
theorem Bx.below {bb : Nat} {t : TypeId} {p : Option (Nat × Nat)} {l : List Label} {W W2 : World} (h : Bx bb t p l W) (hb : Below W.heap.size W W2) : Bx bb t p l W2 := by
  have lt : ∀ (A : Nat) o v, W.cell? ⟨A, o, none⟩ = some v → A < W.heap.size := fun A o v e => by
    unfold World.cell? at e
    split at e
    · rename_i hq; exact (Array.getElem?_eq_some_iff.1 hq).1
    · cases e
  refine ⟨(hb.block bb (Array.getElem?_eq_some_iff.1 h.box).1).trans h.box, h.nil, fun A c e k hk => ?_, fun A c e k hk => ?_⟩
  · have := h.key A c e k hk
    exact (hb.cell (p := ⟨A, k * 2, none⟩) (lt _ _ _ this)).trans this
  · have := h.val A c e k hk
    exact (hb.cell (p := ⟨A, k * 2 + 1, none⟩) (lt _ _ _ this)).trans this
set_option maxRecDepth 100000 in
set_option maxHeartbeats 2000000 in
theorem common1_open (bb : Nat) (t : TypeId) (p : Option (Nat × Nat)) (l : List Label) (n : Nat) (hl : l.length ≤ 9223372036854775807) :
    SeqOpen Fence.wide n Try.prog 61 #[.pointer (some ⟨bb, 0, none⟩)] l.length (encsL l) (fun _ W => Bx bb t p l W) (fun _ W W2 => Below W.heap.size W W2) := by
  intro y J J' Jx W hB hS hY h0
  refine callsIn_of_wp Try.func61 rfl trivial ?_ rfl
  simp only [Try.ntmps61, List.size_toArray, List.length_cons, List.length_nil, Nat.reduceAdd, Nat.reduceSub, Array.replicate_succ, Array.replicate_zero, List.push_toArray, List.append_toArray, List.nil_append, List.cons_append]
  have hb0 := hB 0 W h0
  have cL : W.cell? ⟨bb, 0, none⟩ = some (slv p l.length) := by rw [cell_of_row _ _ _ _ _ _ hb0.box]; rfl
  have hnil := hb0.nil
  clear hb0
  cases p with
  | none =>
    have hl0 := hnil rfl
    subst hl0
    simp only [slv] at cL
    gi_wp2
    refine wpIn_loop_rounds 1 ?_
    rw [roundsIn_succ]
    gi_wp2
    go_end0
    exact ⟨⟨_, rfl⟩, .inl ⟨W, h0, Below.refl _ _⟩⟩
  | some pc =>
    obtain ⟨A, c⟩ := pc
    simp only [slv] at cL
    gi_wp2
    gi_loopw [7] (fun i wr => ∃ k : Nat, k ≤ l.length ∧ i = .int .i64 k ∧ J k wr) (fun i _ => l.length - (intOf i).toNat)
    case atStart => exact ⟨0, Nat.zero_le _, rfl, h0⟩
    case round =>
      clear cL
      obtain ⟨k, hk, rfl, hj⟩ := hrel
      have hbx := hB k wr hj
      by_cases hlt : k < l.length
      · have ck := hbx.key A c rfl k hlt
        have cv := hbx.val A c rfl k hlt
        clear hbx
        obtain ⟨key, hkey⟩ : ∃ key, (el l k).Key = key := ⟨_, rfl⟩
        obtain ⟨val, hval⟩ : ∃ val, (el l k).Value = val := ⟨_, rfl⟩
        rw [hkey] at ck
        rw [hval] at cv
        have hb2 : Below wr.heap.size wr (wr.alloc (.cells #[.string key, .string val] 81)) := (Below.refl _ _).alloc (Nat.le_refl _) _
        obtain ⟨fn, tm, assign, body, hy, hR2⟩ := hY k _ hlt (hS k wr _ hlt hj hb2)
        simp only [encsL, hkey, hval] at hy
        gi_wp2
        refine ⟨fun h => by simp [Fence.wide] at h, ?_⟩
        refine hR2.mono ?_
        rintro e W3 (⟨rfl, hJ3⟩ | ⟨rfl, hJx3⟩)
        · gi_wp2
          go_roundw
          case rel => exact ⟨k + 1, by omega, by go_num, hJ3⟩
          case measure => simp [intOf]; omega
        · gi_wp2
          refine bodyPost_ret (results_none rfl _ _ _) rfl ?_
          exact ⟨⟨_, rfl⟩, .inr ⟨k, W3, hlt, hJx3, Below.refl _ _⟩⟩
      · obtain rfl : k = l.length := by omega
        gi_wp2
        go_end0
        exact ⟨⟨_, rfl⟩, .inl ⟨wr, hj, Below.refl _ _⟩⟩
/-- A box, and the list in it, speak of cells alone. -/
theorem own_bx (B bb : Nat) (t : TypeId) (p : Option (Nat × Nat)) (l : List Label) : OwnFrom B (fun (_ : Nat) W => Bx bb t p l W) := fun s X Y row hs hg hr => by
  refine ⟨(hg.block bb (Array.getElem?_eq_some_iff.1 hs.box).1 (fun e => by obtain ⟨_, o, ho, hc⟩ := hr bb e.symm; rw [hs.box] at ho; cases ho; cases hc)).trans hs.box, hs.nil, fun A c e k hk => ?_, fun A c e k hk => ?_⟩
  · exact cell_kept (hs.key A c e k hk) hg fun r hr' => (hr r hr').2
  · exact cell_kept (hs.val A c e k hk) hg fun r hr' => (hr r hr').2
theorem own_num (B b : Nat) (t : TypeId) (f : Nat → Array Value) : OwnFrom B (fun s W => W.heap[b]? = some (.cells (f s) t (0, 0))) := fun s X Y row hs hg hr =>
  (hg.block b (Array.getElem?_eq_some_iff.1 hs).1 (fun e => by obtain ⟨_, o, ho, hc⟩ := hr b e.symm; rw [show X.heap[b]? = _ from hs] at ho; cases ho; cases hc)).trans hs
/-- How it stands behind so many. -/
def MtI (w : World) (nb bb : Nat) (t : TypeId) (p : Option (Nat × Nat)) (l : List Label) (k : Nat) (W : World) : Prop :=
  (W.heap[nb]? = some (.cells #[.int .i64 k] 3 (0, 0)) ∧ Bx bb t p l W) ∧ Below w.heap.size w W
theorem own_mt (B : Nat) (w : World) (hB : w.heap.size ≤ B) (nb bb : Nat) (t : TypeId) (p : Option (Nat × Nat)) (l : List Label) : OwnFrom B (MtI w nb bb t p l) :=
  ((own_num B nb _ _).and (own_bx B bb t p l)).and (ownFrom_below (Nat.le_refl _) hB)
set_option maxRecDepth 100000 in
set_option maxHeartbeats 2000000 in
theorem matches_calls {S : Sto} {w : World} {a b l pa pb : List Label} {u v : Value} (hl : labels_Common a b = some l) (hvs : Cs (RepV S) [lstOf 2 eLabel a pa, lstOf 2 eLabel b pb] [u, v]) (himm : ∀ q u, S q = some u → w.cell? q = some u) (hg : G0 w) :
    Calls Try.prog 29 #[u, v] w fun e w' => e = .returned (.bool (decide ((l.length : Int) = (a.length : Int)))) ∧ Below w.heap.size w w' := by
  refine (callsIn_wide (n := 3)).1 ?_
  refine callsIn_of_wp_marks Try.func29 rfl trivial ?_ rfl
  simp only [Try.ntmps29, List.size_toArray, List.length_cons, List.length_nil, Nat.reduceAdd, Nat.reduceSub, Array.replicate_succ, Array.replicate_zero, List.push_toArray, List.append_toArray, List.nil_append, List.cons_append]
  obtain ⟨u', us, e1, hu, hr⟩ := hvs.tail
  obtain ⟨rfl, rfl⟩ : u = u' ∧ [v] = us := by simpa using e1
  have hus : ∃ ua ca, u = .slice ua a.length ca := by
    unfold lstOf at hu
    obtain ⟨m, hm⟩ : ∃ m, a.length + pa.length = m := ⟨_, rfl⟩
    rw [hm] at hu
    obtain ⟨n, hn⟩ : ∃ n, a.length = n := ⟨_, rfl⟩
    rw [hn] at hu ⊢
    clear hn hm
    cases hu with
    | nil => exact ⟨_, _, rfl⟩
    | lst _ _ _ _ ad cap f => exact ⟨_, _, rfl⟩
  clear hu hr e1
  have hb1 : Below w.heap.size w (w.alloc (.cells #[.int .i64 0] 3)) := (Below.refl _ _).alloc (Nat.le_refl _) _
  have hlt : ∀ q v, S q = some v → q.block < w.heap.size := fun q v e => by
    have := himm q v e
    unfold World.cell? at this
    split at this
    · rename_i hq; exact (Array.getElem?_eq_some_iff.1 hq).1
    · cases this
  have himm1 : ∀ q v, S q = some v → (w.alloc (.cells #[.int .i64 0] 3)).cell? q = some v := fun q v e => (hb1.cell (hlt q v e)).trans (himm q v e)
  have HC := Lib.hid (common_calls hl hvs himm1 (hG0 _ _ hg hb1))
  have HB1 := Lib.hid hb1
  have hh1 := heap_alloc_new w (.cells #[.int .i64 0] 3)
  have HH1 := Lib.hid hh1
  obtain ⟨ua, ca, rfl⟩ := hus
  clear hl hvs himm himm1 hg hlt hb1 hh1
  gi_wp2
  refine ⟨trivial, ?_⟩
  refine (callsIn_wide.2 HC.out).mono ?_
  rintro e w2 ⟨bb, t, p, rfl, hbx, hb2, hbB, hlen, hA⟩
  have hml : l.length ≤ 9223372036854775807 := hlen
  have hA : ∀ A c, p = some (A, c) → w.heap.size < A := fun A c e => by have := hA A c e; rw [World.size_alloc] at this; omega
  have hnb : w.heap.size < (w.alloc (.cells #[.int .i64 0] 3)).heap.size := by rw [World.size_alloc]; omega
  have hI0 : MtI w w.heap.size bb t p l 0 w2 := ⟨⟨(hb2.block _ hnb).trans HH1.out, hbx⟩, HB1.out.trans (hb2.mono (by rw [World.size_alloc]; omega))⟩
  have hsz : w.heap.size < w2.heap.size := Nat.lt_of_lt_of_le hnb hb2.size
  have hbb : w.heap.size < bb := Nat.lt_of_lt_of_le hnb hbB
  clear HC HB1 HH1 hbx hb2 hnb hbB
  gi_wp2
  refine wpIn_rangeFunc_open rfl (by omega) (gf := 61) (lb := #[.pointer (some ⟨bb, 0, none⟩)]) rfl trivial (enters_of Try.func61 (by kernel_rfl) rfl)
    (common1_open bb t p l _ hlen) (fun _ => rfl) (fun k X Y h => ⟨h.size, fun j o hB hj _ => (h.block j (Array.getElem?_eq_some_iff.1 hj).1).trans hj⟩)
    (MtI w w.heap.size bb t p l) (MtI w w.heap.size bb t p l) (fun _ _ _ => False) (fun _ _ _ => False)
    (fun k a' W => MtI w w.heap.size bb t p l k W ∧ a' = { tmps := #[.slice ua a.length ca, v, undef, undef, .bool false, .pointer (some ⟨w.heap.size, 0, none⟩), .slice ua a.length ca, v, .func (.func 61) #[] #[.pointer (some ⟨bb, 0, none⟩)],
      .agg #[.string (el l k).Key, .string (el l k).Value], undef, undef, undef, undef, undef, undef], defers := [] })
    (own_mt _ w (by omega) _ _ _ _ _) (own_mt _ w (by omega) _ _ _ _ _) (fun _ _ _ _ _ h => h.elim) (fun _ _ _ _ _ h => h.elim) ?ax hI0 (fun k W h => h.1.2) ?is ?assign ?body (fun _ _ _ _ h => h.elim) ?done (fun _ _ _ _ _ _ h => h.elim)
  case ax =>
    rintro a' k X Y row ⟨h1, h2⟩ hg hr
    exact ⟨own_mt w2.heap.size w (by omega) _ _ _ _ _ k X Y row h1 hg hr, h2⟩
  case is =>
    rintro k W W2 hk ⟨⟨h1, h2⟩, h3⟩ hs
    exact ⟨⟨(hs.block _ (Array.getElem?_eq_some_iff.1 h1).1).trans h1, h2.below hs⟩, h3.trans (hs.mono h3.size)⟩
  case assign =>
    intro y k W K hk hi hK
    simp only [encsL]
    gi_wp2
    exact hK _ _ (KeepsFrom.refl _ _) ⟨hi, by simp⟩
  case body =>
    rintro y k a' W hy hr hk ⟨⟨⟨h1, h2⟩, h3⟩, rfl⟩
    have c0 : W.cell? ⟨w.heap.size, 0, none⟩ = some (.int .i64 k) := by rw [cell_of_row _ _ _ _ _ _ h1]; rfl
    have f0 : W.frozen? ⟨w.heap.size, 0, none⟩ = false := frozen_of_row _ _ _ _ _ h1
    gi_wp2
    rw [show ((k : Int) + 1) = ((k + 1 : Nat) : Int) by omega]
    refine ⟨(KeepsOthers.setCell _ _ _).from _, ⟨⟨by simp [World.setCell, Array.getElem?_modify, h1], ⟨(Below.heap_setCell W _ _ bb (show bb ≠ w.heap.size by omega)).trans h2.box, h2.nil, fun A c e q hq => ?_, fun A c e q hq => ?_⟩⟩, h3.setCell (p := ⟨w.heap.size, 0, none⟩) (Nat.le_refl _) _⟩⟩
    · rw [cell_set_other _ _ _ _ (show A ≠ w.heap.size by have := hA A c e; omega)]
      exact h2.key A c e q hq
    · rw [cell_set_other _ _ _ _ (show A ≠ w.heap.size by have := hA A c e; omega)]
      exact h2.val A c e q hq
  case done =>
    rintro D W W2 hD hi hs W3 ⟨o, o', j, hDj, rfl, hj, ho⟩ hK
    obtain ⟨⟨h1, h2⟩, h3⟩ := hi
    have hi2 : MtI w w.heap.size bb t p l l.length W2 := ⟨⟨(hs.block _ (Array.getElem?_eq_some_iff.1 h1).1).trans h1, h2.below hs⟩, h3.trans (hs.mono h3.size)⟩
    have hi3 := (own_mt w2.heap.size w (by omega) _ _ _ _ _).putObj (l := j) o' hi2 (by omega) hj ho
    obtain ⟨W3, hW3⟩ : ∃ W3, W2.putObj j o' = W3 := ⟨_, rfl⟩
    rw [hW3] at hi3 hK ⊢
    clear hj hW3 hs hi2 h1 h2 h3
    obtain ⟨⟨h1, h2⟩, h3⟩ := hi3
    have c0 : W3.cell? ⟨w.heap.size, 0, none⟩ = some (.int .i64 l.length) := by rw [cell_of_row _ _ _ _ _ _ h1]; rfl
    gi_wp2
    refine ⟨by simp, .inl ⟨_, _, rfl, run_takeDeferred hK, ?_⟩⟩
    refine ⟨_, results_tmp rfl _ _ _, ?_⟩
    exact ⟨by rfl, h3.trans (belowK_b (w := w) (Nat.le_refl _) _ D _ _ (by omega) hK rfl rfl)⟩
end Go.Proofs.Ytcchccdbkpidpaa.Ak
