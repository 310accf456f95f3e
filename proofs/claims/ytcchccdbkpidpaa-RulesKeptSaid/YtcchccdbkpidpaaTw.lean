/- rules.twice, walked by hand: a map of counts that the call keeps to itself. -/
import Derived.Test.YtcchccdbkpidpaaProg
import Derived.WalkKit
import Derived.LoopTactic
import Derived.Tactics2
import Derived.Below
import Derived.Lib.Hide
import Derived.Outline
import Derived.Handy
import Derived.OwnWalk
import Derived.Laws.Rows
import Derived.Deep.WholeRow
import Derived.Deep.MidRow
import Derived.Maps.OwnOps
import Derived.Maps.Views
import Derived.StringKeys
import Derived.Test.YtcchccdbkpidpaaAvB
set_option linter.unusedVariables false
set_option linter.unusedSimpArgs false
namespace Go.Proofs.Ytcchccdbkpidpaa.Ag
open Go Go.RowKit Go.Maps Go.Proofs.Ytcchccdbkpidpaa.Av

def hasS (l : List ByteArray) (s : ByteArray) : Bool := l.any fun t => decide (t = s)
/-- The place of the first text that stands among those ahead. -/
def twL : List ByteArray → List ByteArray → Int
  | seen, [] => -1
  | seen, s :: r => bif hasS seen s then (seen.length : Int) else twL (seen ++ [s]) r
def dIn (D : DataW Unit) : List ByteArray → DataW Unit
  | [] => D
  | s :: r => dIn (D.put (.string s.data.toList) (.lit (.int .i64 1))) r
def dOf (l : List ByteArray) : DataW Unit := dIn (.map []) l
theorem dIn_snoc (s : ByteArray) : ∀ (l : List ByteArray) (D : DataW Unit), dIn D (l ++ [s]) = (dIn D l).put (.string s.data.toList) (.lit (.int .i64 1))
  | [], D => rfl
  | t :: l, D => dIn_snoc s l _
theorem dOf_snoc (l : List ByteArray) (s : ByteArray) : dOf (l ++ [s]) = (dOf l).put (.string s.data.toList) (.lit (.int .i64 1)) := dIn_snoc s l _
theorem key_inj {s t : ByteArray} (h : s.data.toList = t.data.toList) : s = t := by
  cases s
  cases t
  have := congrArg List.toArray h
  simp at this
  rw [this]
theorem dIn_map : ∀ (l : List ByteArray) (D : DataW Unit), IsMap D → IsMap (dIn D l)
  | [], D, h => h
  | s :: l, D, h => dIn_map l _ (h.put _ _)
theorem dIn_at (s : ByteArray) (z : DataW Unit) : ∀ (l : List ByteArray) (D : DataW Unit), IsMap D → (dIn D l).atKey (.string s.data.toList) z = bif hasS l s then .lit (.int .i64 1) else D.atKey (.string s.data.toList) z
  | [], D, h => rfl
  | t :: l, D, h => by
    show (dIn (D.put (.string t.data.toList) (.lit (.int .i64 1))) l).atKey _ z = bif (decide (t = s) || hasS l s) then _ else _
    rw [dIn_at s z l _ (h.put _ _)]
    by_cases hl : hasS l s = true
    · simp [hl]
    · have hl : hasS l s = false := by simpa using hl
      rw [hl, Bool.or_false]
      by_cases hs : t = s
      · subst hs
        simp only [cond_false, decide_true, cond_true]
        exact atKey_put_same h (by simp [WideAt.IsKeyLit]) _ _
      · rw [decide_eq_false hs]
        simp only [cond_false]
        exact atKey_put_other (fun q => hs (key_inj (by simpa using q.symm))) _ _
theorem dOf_at (l : List ByteArray) (s : ByteArray) (z : DataW Unit) : (dOf l).atKey (.string s.data.toList) z = bif hasS l s then .lit (.int .i64 1) else z := dIn_at s z l _ ⟨[], rfl⟩

set_option maxRecDepth 100000 in
theorem twice_none (a : Option Addr) (cap : Nat) (w : World) : Calls Try.prog 41 #[.slice a 0 cap] w fun e w' => e = .returned (.int .i64 (-1)) ∧ Below w.heap.size w w' := by
  have hmm := @run_makeMap Try.prog
  go_enter Try.func41, Try.ntmps41
  go_wp2
  refine wp_loop_rounds 1 ?_
  rw [rounds_succ]
  go_wp2
  go_ret
  exact ⟨rfl, (Below.refl _ _).alloc (Nat.le_refl _) _⟩
theorem Tw.size : (Try.prog.info? 34).map (·.size) = some 32 := by kernel_rfl
theorem Tw.zero (w : World) : (zeroValue 3).run Try.prog w = .ok (.int .i64 0) w := by kernel_rfl
theorem wpList_load_val {P : Program} {w : World} {ops : Array Oper} {rest : List Oper} {o : Oper} {a : Act} {Q : Exit → Act → World → Prop} (hg : o.guard = none) (t : TypeId) (x : Operand) (ho : o.op = .load t x) (ad : Addr) (hx : a.eval x = .pointer (some ad)) {d : TypeDesc} (hu : P.underlying t = some d) (hd : d.isRow = false) (v : Value) (hc : w.cell? ad = some v)
    (h : wpList P ops Q rest (a.put o.dst v) w) : wpList P ops Q (o :: rest) a w := by
  refine wpList_plain hg fun K hK => ?_
  have hl : (Instr.loadAt t (.pointer (some ad))).run P w = .ok v w := by simp only [Instr.loadAt, Instr.sureAddr, Sem.run_bind, Sem.run_pure, Result.andThen_ok]; exact run_loadVar_one hu hd hc
  unfold Oper.wp
  simp [execOp, ho, hx, hl, Sem.run_bind, Result.andThen]
  exact hK _ _ h
theorem Tw.cell (w : World) (Q : List Value) (t : TypeId) (z : Array Value) {s : Value} (h : Q[1]? = some s) : ((w.alloc (.cells z t)).setRow w.heap.size Q.toArray).cell? ⟨w.heap.size, 1, none⟩ = some s := by
  rw [World.setRow_alloc_new]
  unfold World.cell?
  rw [heap_alloc_new]
  simpa using h
theorem tw_hit {ns : List ByteArray} {k : Nat} {s : ByteArray} (hs : ns[k]? = some s) (h : hasS (ns.take k) s = true) : twL (ns.take k) (ns.drop k) = k := by
  have hk := (List.getElem?_eq_some_iff.1 hs).1
  rw [List.drop_eq_getElem_cons hk]
  have : ns[k] = s := (List.getElem?_eq_some_iff.1 hs).2
  rw [this, twL, h, cond_true, List.length_take, Nat.min_eq_left (Nat.le_of_lt hk)]
theorem take_snoc {ns : List ByteArray} {k : Nat} {s : ByteArray} (hs : ns[k]? = some s) : ns.take (k + 1) = ns.take k ++ [s] := by
  have hk := (List.getElem?_eq_some_iff.1 hs).1
  rw [List.take_succ_eq_append_getElem hk, (List.getElem?_eq_some_iff.1 hs).2]
theorem tw_miss {ns : List ByteArray} {k : Nat} {s : ByteArray} (hs : ns[k]? = some s) (h : hasS (ns.take k) s = false) : twL (ns.take (k + 1)) (ns.drop (k + 1)) = twL (ns.take k) (ns.drop k) := by
  have hk := (List.getElem?_eq_some_iff.1 hs).1
  rw [List.drop_eq_getElem_cons hk, take_snoc hs]
  have : ns[k] = s := (List.getElem?_eq_some_iff.1 hs).2
  rw [this, twL, h, cond_false]
theorem at_has {l : List ByteArray} {s : ByteArray} {c : Int} (h : (dOf l).atKey (.string s.data.toList) (.lit (.int .i64 0)) = .lit (.int .i64 c)) : c = bif hasS l s then 1 else 0 := by
  rw [dOf_at] at h
  cases hh : hasS l s <;> rw [hh] at h <;> simp at h <;> simp [h]
theorem Tw.own {H : Type} {P : Program} {k n b : Nat} {R : Value → Option (DataW H × List MemPlace)} {D : DataW H} {w : World} (h : w.ownsMap P k R b n D) (z c : Array Value) (t : TypeId) : ((w.alloc (.cells z t)).setRow w.heap.size c).ownsMap P k R b n D := by
  rw [World.setRow_alloc_new]
  exact h.alloc _
set_option maxHeartbeats 2000000 in
set_option maxRecDepth 100000 in
theorem twice_some (A off n cap : Nat) (ns : List ByteArray) (f : Nat → List Value) (w : World) (hn : ns.length = n) (hmax : n < 9223372036854775807) (hs : ∀ s ∈ ns, s.size ≤ maxLen) (hA : A < w.heap.size)
    (hf : ∀ k, k < n → (f k).length = 32) (h1 : ∀ k, k < n → (f k).all (·.oneCell') = true) (hname : ∀ k s, ns[k]? = some s → (f k)[1]? = some (.string s)) (hr : ∀ k, k < n → w.rangeAt A (off + k * 32) (f k)) :
    Calls Try.prog 41 #[.slice (some ⟨A, off, none⟩) n cap] w fun e w' => e = .returned (.int .i64 (twL [] ns)) ∧ Below w.heap.size w w' := by
  have hmm := @run_makeMap Try.prog
  have law : Keyed Try.prog 9 := string_keyed Try.underlying9
  have HN := Lib.hid hname
  have HR := Lib.hid hr
  have HF := Lib.hid hf
  have H1 := Lib.hid h1
  have HS := Lib.hid hs
  clear hname hr hf h1 hs
  go_enter Try.func41, Try.ntmps41
  go_wp2
  go_loopw [9] (fun i wr => ∃ k : Nat, k ≤ n ∧ i = .int .i64 k ∧ Hid (twL (ns.take k) (ns.drop k) = twL [] ns) ∧ Hid (wr.ownsMap Try.prog 9 (plainElem Try.prog 3) w.heap.size k (dOf (ns.take k))) ∧ Below w.heap.size w wr ∧ w.heap.size < wr.heap.size)
    (fun i _ => n - (intOf i).toNat)
  case atStart => exact ⟨0, Nat.zero_le _, rfl, Lib.hid rfl, Lib.hid (World.ownsMap_made _ _ _ _), (Below.refl _ _).alloc (Nat.le_refl _) _, by simp⟩
  case round =>
    obtain ⟨k, hk, rfl, HT, HO, hB, hlt⟩ := hrel
    by_cases hkn : k < n
    · obtain ⟨s, hsk⟩ : ∃ s, ns[k]? = some s := ⟨ns[k], by rw [List.getElem?_eq_getElem]⟩
      have hr : wr.rangeAt A (off + k * 32) (f k) := fun j v hv => (hB.cell (p := ⟨A, off + k * 32 + j, none⟩) hA).trans (HR.out k hkn j v hv)
      have hl := HF.out k hkn
      have hc1 := HN.out k s hsk
      have ho1 := H1.out k hkn
      obtain ⟨Q, hQ⟩ : ∃ Q, f k = Q := ⟨_, rfl⟩
      rw [hQ] at hr hl hc1 ho1
      have hsz : s.size ≤ maxLen := HS.out s (List.mem_of_getElem? hsk)
      have HI := Lib.hid (show (Try.prog.info? 34).map (·.size) = some Q.length by rw [Tw.size, hl])
      have hu := Try.underlying34
      have HIa := Lib.hid (show (Try.prog.info? 34).map (·.size) = some Q.toArray.size by rw [Tw.size]; simp [hl])
      have HZs := Lib.hid (show 32 = Q.toArray.size by simp [hl])
      have HC := Lib.hid (show Q.toArray.all (·.oneCell') = true by simpa using ho1)
      have hmx : k < 9223372036854775807 := by omega
      have hkey : keyOf Try.prog 9 (.string s) = some (.string s.data.toList) := WideMaps.keyOf_string_mk Try.underlying9 hsz
      clear HR HF HN H1 hQ hl ho1
      go_wp2_with (first
        | (refine wpList_load_mid rfl 34 (.tmp 12) rfl A (off + k * 32) rfl Q _ hr hu rfl HI.out ?_)
        | (refine wpList_store_row rfl 34 (.tmp 5) (.tmp 13) rfl wr.heap.size Q.toArray rfl rfl _ _ (heap_alloc_new wr _) HIa.out HZs.out HC.out ?_)
        | (refine wpList_load_val rfl 9 (.tmp 15) rfl ⟨wr.heap.size, 1, none⟩ rfl Try.underlying9 rfl (.string s) (Tw.cell wr Q _ _ hc1) ?_)
        | (refine wpList_load_val rfl 9 (.tmp 21) rfl ⟨wr.heap.size, 1, none⟩ rfl Try.underlying9 rfl (.string s) (Tw.cell wr Q _ _ hc1) ?_)
        | (at_lookup; refine wpList_lookup_own_int _ rfl _ (.tmp 16) 84 rfl 9 3 .i64 law Try.underlying84 Try.underlying3 (Tw.zero _) w.heap.size k _ rfl (Tw.own HO.out _ _ _) _ _ rfl hkey ?_; intro c1 hat1 hwc1)
        | (at_lookup; refine wpList_lookup_own_int _ rfl _ (.tmp 22) 84 rfl 9 3 .i64 law Try.underlying84 Try.underlying3 (Tw.zero _) w.heap.size k _ rfl (Tw.own HO.out _ _ _) _ _ rfl hkey ?_; intro c2 hat2 hwc2)
        | (at_mapUpdate; refine wpList_mapUpdate_own _ rfl _ _ _ 84 rfl 9 3 law Try.underlying84 _ w.heap.size k _ rfl (Tw.own HO.out _ _ _) (by unfold maxLen; omega) _ _ _ rfl rfl hkey _ [] (plainElem_int Try.underlying3 (wrap64_wf _)) ?_; intro w1 hown1 hgrow1)
        | fail)
      · have hb2 : Below w.heap.size w (wr.alloc (.cells Q.toArray 34)) := hB.alloc (Nat.le_of_lt hlt) _
        rw [World.setRow_alloc_new]
        clear hr HI hu HIa HZs HC
        have hc := at_has hat1
        have hh : hasS (ns.take k) s = true := by
          cases hh : hasS (ns.take k) s
          · rw [hh] at hc; simp at hc; omega
          · rfl
        have ht := HT.out
        rw [tw_hit hsk hh] at ht
        go_ret
        exact ⟨by rw [ht]; rfl, hb2⟩
      · have hb2 : Below w.heap.size w (wr.alloc (.cells Q.toArray 34)) := hB.alloc (Nat.le_of_lt hlt) _
        rw [World.setRow_alloc_new] at hgrow1
        clear hr HI hu HIa HZs HC
        have hc := at_has hat1
        have hh : hasS (ns.take k) s = false := by
          cases hh : hasS (ns.take k) s
          · rfl
          · rw [hh] at hc; simp at hc; omega
        have hc2 := at_has hat2
        rw [hh] at hc2
        simp at hc2
        subst hc2
        have ho2 : w1.ownsMap Try.prog 9 (plainElem Try.prog 3) w.heap.size (k + 1) (dOf (ns.take (k + 1))) := by
          rw [show wrap64 (0 + 1) = 1 by kernel_rfl] at hown1
          rw [take_snoc hsk, dOf_snoc]
          exact hown1
        have hs1 := hgrow1.size
        simp at hs1
        have hT2 : Hid (twL (ns.take (k + 1)) (ns.drop (k + 1)) = twL [] ns) := Lib.hid ((tw_miss hsk hh).trans HT.out)
        have hb3 : Below w.heap.size w w1 := hb2.grown hgrow1 (by simp; omega) (fun j hj => by cases hj; exact Nat.le_refl _)
        have HO2 := Lib.hid ho2
        clear hat1 hat2 hc hown1 ho2 hgrow1
        go_roundw
        case rel => exact ⟨k + 1, by omega, by go_num, hT2, HO2, hb3, by omega⟩
        case measure => simp [intOf]; omega
    · obtain rfl : k = n := by omega
      have ht := HT.out
      rw [List.drop_of_length_le (by omega)] at ht
      simp only [twL] at ht
      go_wp2_with fail
      go_ret
      exact ⟨by rw [← ht]; rfl, hB⟩

/-- The names of the objects. -/
def nmA : List (List AV) → Option (List ByteArray)
  | [] => some []
  | (_ :: .v (.string s) :: _) :: r => match Nat.ble s.size 9223372036854775807, nmA r with
    | true, some ss => some (s :: ss)
    | _, _ => none
  | _ :: _ => none
def twiceM : List AV → Option (AV × List Blk)
  | [.lst 32 n _ get] => match Nat.blt n 9223372036854775807, nmA ((List.range n).map get) with
    | true, some ss => some (.v (.int .i64 (twL [] ss)), [])
    | _, _ => none
  | _ => none
theorem nmA_len : ∀ (l : List (List AV)) (ss : List ByteArray), nmA l = some ss → ss.length = l.length ∧ ∀ (k : Nat) s, ss[k]? = some s → s.size ≤ 9223372036854775807 ∧ ∃ cs, l[k]? = some cs ∧ cs[1]? = some (.v (.string s))
  | [], ss, h => by simp [nmA] at h; subst h; simp
  | c :: l, ss, h => by
    unfold nmA at h
    split at h
    · rename_i q; cases q
    · rename_i x s r l' e
      cases e
      split at h
      · rename_i ss' hb hr
        simp only [Option.some.injEq] at h
        subst h
        obtain ⟨h1, h2⟩ := nmA_len _ _ hr
        refine ⟨by simp [h1], fun k t hk => ?_⟩
        cases k with
        | zero => simp at hk; subst hk; exact ⟨Nat.le_of_ble_eq_true hb, _, rfl, rfl⟩
        | succ k => simpa using h2 k t (by simpa using hk)
      · cases h
    · cases h

theorem twice_models {G : World → Prop} (hG : ∀ w w', G w → Below w.heap.size w w' → G w') : Models Try.prog G 41 twiceM := by
  refine models_of_calls' hG fun S w bs vs r Hr hvs himm hg e => ?_
  unfold twiceM at e
  split at e
  · rename_i n m get
    split at e
    · rename_i ss hb hss
      simp only [Option.some.injEq, Prod.mk.injEq] at e
      obtain ⟨rfl, rfl⟩ := e
      obtain ⟨u, us, rfl, hx, hr⟩ := hvs.tail
      obtain rfl := hr.nil_inv
      refine ⟨_, rfl, rfl, ?_⟩
      obtain ⟨h1, h2⟩ := nmA_len _ _ hss
      have hn : ss.length = n := by simpa using h1
      cases hx with
      | nil =>
        obtain rfl := List.eq_nil_of_length_eq_zero hn
        exact twice_none none 0 w
      | lst _ _ _ _ a cap f hnm hcap hl hs hr2 h1c =>
        cases n with
        | zero =>
          obtain rfl := List.eq_nil_of_length_eq_zero hn
          exact twice_none (some a) cap w
        | succ n =>
          have hc0 : ∀ i j, i < m → j < 32 → w.cell? (a.add (i * 32 + j)) = some (f i j) := fun i j hi hj => himm _ _ (hs i j hi hj)
          have hsp : a.spot = none ∧ a.block < w.heap.size := by
            have := hc0 0 0 (by omega) (by omega)
            rw [show a.add (0 * 32 + 0) = a from rfl] at this
            unfold World.cell? at this
            split at this
            · rename_i hq
              refine ⟨?_, (Array.getElem?_eq_some_iff.1 hq).1⟩
              cases hsp : a.spot with
              | none => rfl
              | some z => simp [hsp] at this
            · cases this
          obtain ⟨A, off, sp⟩ := a
          obtain ⟨rfl, hA⟩ := hsp
          refine twice_some A off (n + 1) cap ss (fun k => (List.range 32).map (f k)) w hn (Nat.le_of_ble_eq_true hb) (fun s hs' => ?_) hA (fun k hk => by simp) (fun k hk => ?_) (fun k s hk => ?_) (fun k hk j v hv => ?_)
          · obtain ⟨k, hk⟩ := List.mem_iff_getElem?.1 hs'
            exact (h2 k s hk).1
          · rw [List.all_eq_true]
            intro v hv
            obtain ⟨j, hj, rfl⟩ := List.mem_map.1 hv
            exact h1c k j (by omega) (List.mem_range.1 hj)
          · obtain ⟨_, cs, h3, h4⟩ := h2 k s hk
            have hkn : k < n + 1 := by have := (List.getElem?_eq_some_iff.1 hk).1; omega
            rw [List.getElem?_map, List.getElem?_range hkn] at h3
            simp at h3
            subst h3
            have := hr2 k 1 _ (by omega) h4
            cases hv : f k 1 with
            | string t => rw [hv] at this; cases this; simp [hv]
            | _ => rw [hv] at this; cases this
          · have hj : j < 32 := by have := (List.getElem?_eq_some_iff.1 hv).1; simpa using this
            rw [List.getElem?_map, List.getElem?_range hj] at hv
            simp at hv
            subst hv
            have := hc0 k j (by omega) hj
            rwa [Addr.add_mid, ← Nat.add_assoc] at this
    · cases e
  · cases e
end Go.Proofs.Ytcchccdbkpidpaa.Ag
