/- What labels.Common hands out, by hand: the labels that it caught, one by one. -/
import Derived.Test.YtdagejfcnjndpaaAvS
import Derived.WalkKit
import Derived.LoopTactic
import Derived.Tactics2
import Derived.Below
import Derived.Lib.Hide
import Derived.Outline
import Derived.Handy
import Derived.Laws.Rows
import Derived.RangeFuncNested
import Derived.RangeFuncBound
import Derived.RangeFuncCalls
import Derived.RangeFuncLeaves
import Derived.OwnWalkIn
import Derived.TacticsInMore
import Derived.LoopNIn
import Derived.LoopIn
set_option linter.unusedVariables false
set_option linter.unusedSimpArgs false
namespace Go.Proofs.Ytdagejfcnjndpaa.Sq
open Go Go.RowKit Go.Proofs.Ytdagejfcnjndpaa.Av Go.Proofs.Ytdagejfcnjndpaa.AvT Go.Proofs.Ytdagejfcnjndpaa.AvS
attribute [local go_sem] Oper.semAt_some

def two : List AV → Bool
  | [.v (.string _), .v (.string _)] => true
  | _ => false
def comSeq : List AV → Option (List (List AV))
  | [.ept [.lst 2 n m get]] => if n ≤ 9223372036854775807 ∧ (List.range n).all (fun i => two (get i)) = true then some ((List.range n).map fun i => [.agg (get i)]) else none
  | _ => none
theorem comSeq_rows (l : List Label) (h : l.length ≤ 4398046511000) : comSeq [.ept [lstOf 2 eLabel l []]] = some (l.map fun x => [.agg (eLabel x)]) := by
  unfold comSeq lstOf
  have hat : ∀ i, i < l.length → nrm (l.length + ([] : List Label).length) (fun i => eLabel (el (l ++ []) i)) i = eLabel (el l i) := fun i hi => by
    rw [nrm_at (by simp; omega), List.append_nil]
  show (if _ then some _ else none) = _
  rw [if_pos ⟨by omega, List.all_eq_true.2 fun i hi => by rw [hat i (List.mem_range.1 hi)]; rfl⟩]
  simp only [Option.some.injEq]
  apply List.ext_getElem
  · simp
  · intro i h1 h2
    simp only [List.getElem_map, List.getElem_range]
    simp only [List.length_map, List.length_range] at h1
    rw [hat i h1]
    simp [el, List.getD_eq_getElem?_getD, List.getElem?_eq_getElem h1]
set_option maxRecDepth 100000 in
set_option maxHeartbeats 2000000 in
theorem comSeq_walk {G : World → Prop} {S : Sto} {n : Nat} (a : Addr) (u : Value) (hu : S a = some u) (ad : Option Addr) (cap : Nat) (huv : u = .slice ad n cap) (hnil : ad = none → n = 0) (f : Nat → Nat → ByteArray) (hf : ∀ d, ad = some d → ∀ i j, i < n → j < 2 → S (d.add (i * 2 + j)) = some (.string (f i j))) (hn : n ≤ 9223372036854775807)
    (dp y : Nat) (J J' Jx : Nat → World → Prop) (W : World)
    (hB : ∀ k W1, J k W1 → (∀ a u, S a = some u → W1.cell? a = some u) ∧ G W1 ∧ W.heap.size ≤ W1.heap.size)
    (hS : ∀ k W1 W2, k < n → J k W1 → StepR W.heap.size 0 W1 W2 → W.heap.size + 0 ≤ W2.heap.size → J' k W2)
    (hY : ∀ k W1, k < n → J' k W1 → YieldAt Fence.wide (dp - 1) Try.prog y #[.agg #[.string (f k 0), .string (f k 1)]] W1 fun e W' => (∀ b, W.heap.size ≤ b → b < W.heap.size + 0 → W'.heap[b]? = W1.heap[b]?) ∧ ((e = .returned (.bool true) ∧ J (k + 1) W') ∨ (e = .returned (.bool false) ∧ Jx (k + 1) W')))
    (h0 : J 0 W) :
    CallsIn Fence.wide dp Try.prog 15 #[.func (.yield y) #[] #[], .pointer (some a)] W fun e W' => (∃ v, e = .returned v) ∧ ((∃ W1, J n W1 ∧ StepR W.heap.size 0 W1 W') ∨ (∃ k W1, k < n ∧ Jx (k + 1) W1 ∧ StepR W.heap.size 0 W1 W')) := by
  subst huv
  refine callsIn_of_wp Try.func15 rfl trivial ?_ rfl
  simp only [Try.ntmps15, List.size_toArray, List.length_cons, List.length_nil, Nat.reduceAdd, Nat.reduceSub, Array.replicate_succ, Array.replicate_zero, List.push_toArray, List.append_toArray, List.nil_append, List.cons_append]
  have cL : W.cell? a = some (.slice ad n cap) := (hB 0 W h0).1 a _ hu
  cases ad with
  | none =>
    obtain rfl := hnil rfl
    gi_wp2
    refine wpIn_loop_rounds 1 ?_
    rw [roundsIn_succ]
    gi_wp2
    go_end0
    exact ⟨⟨_, rfl⟩, .inl ⟨W, h0, .of_below (Below.refl _ _)⟩⟩
  | some d =>
    have hf := hf d rfl
    obtain ⟨db, dof, dn⟩ := d
    gi_wp2
    gi_loopw [7] (fun i wr => ∃ k : Nat, k ≤ n ∧ i = .int .i64 k ∧ J k wr) (fun i _ => n - (intOf i).toNat)
    case atStart => exact ⟨0, Nat.zero_le _, rfl, h0⟩
    case round =>
      clear cL
      obtain ⟨k, hk, rfl, hj⟩ := hrel
      obtain ⟨him, hg, hsz⟩ := hB k wr hj
      by_cases hlt : k < n
      · have ck := him _ _ (hf k 0 hlt (by omega))
        have cv := him _ _ (hf k 1 hlt (by omega))
        simp only [Nat.add_zero] at ck
        rw [show (⟨db, dof, dn⟩ : Addr).add (k * 2 + 1) = ((⟨db, dof, dn⟩ : Addr).add (k * 2)).add 1 by simp only [Addr.add]; by_cases h : k * 2 = 0 <;> simp [h, Nat.add_assoc]] at cv
        simp only [Addr.add_succ', Nat.zero_add, Nat.reduceAdd] at cv
        have hb2 : Below wr.heap.size wr (wr.alloc (.cells #[.string (f k 0), .string (f k 1)] 31)) := (Below.refl _ _).alloc (Nat.le_refl _) _
        have hY2 := hY k _ hlt (hS k wr _ hlt hj (.of_below hb2) (by rw [World.size_alloc]; omega))
        obtain ⟨key, hkey⟩ : ∃ key, f k 0 = key := ⟨_, rfl⟩
        obtain ⟨val, hval⟩ : ∃ val, f k 1 = val := ⟨_, rfl⟩
        rw [hkey] at ck
        rw [hval] at cv
        rw [hkey, hval] at hY2
        obtain ⟨fn, tm, assign, body, hy, hR2⟩ := hY2
        clear him hf hkey hval
        gi_wp2
        refine ⟨fun h => by simp [Fence.wide] at h, ?_⟩
        refine hR2.mono ?_
        rintro e W3 ⟨_, (⟨rfl, hJ3⟩ | ⟨rfl, hJx3⟩)⟩
        · gi_wp2
          go_roundw
          case rel => exact ⟨k + 1, by omega, by go_num, hJ3⟩
          case measure => simp [intOf]; omega
        · gi_wp2
          refine bodyPost_ret (results_none rfl _ _ _) rfl ?_
          exact ⟨⟨_, rfl⟩, .inr ⟨k, W3, hlt, hJx3, .of_below (Below.refl _ _)⟩⟩
      · obtain rfl : k = n := by omega
        gi_wp2
        go_end0
        exact ⟨⟨_, rfl⟩, .inl ⟨wr, hj, .of_below (Below.refl _ _)⟩⟩
theorem strV {S : Sto} {x : ByteArray} {u : Value} (h : RepV S (.v (.string x)) u) : u = .string x := by cases h; rfl
theorem comSeq_ok {G : World → Prop} : SeqOk Try.prog G 15 comSeq := by
  intro S caps vs rows hc hq
  unfold comSeq at hq
  split at hq
  case h_2 => cases hq
  rename_i n m get
  split at hq
  case isFalse => cases hq
  rename_i hn
  obtain rfl := (Option.some.inj hq).symm
  obtain ⟨u, us, rfl, hu, hus⟩ := hc.tail
  obtain rfl := hus.nil_inv
  cases hu with
  | ept _ a fv hs hr =>
    have h0 := hs 0 (by simp)
    have r0 := hr 0 _ rfl
    rw [show a.add 0 = a by simp [Addr.add]] at h0
    have hlen : ((List.range n).map fun i => [AV.agg (get i)]).length = n := by simp
    generalize hv : fv 0 = v at h0 r0
    have key : ∃ (ad : Option Addr) (cap : Nat) (f : Nat → Nat → ByteArray), v = .slice ad n cap ∧ (ad = none → n = 0) ∧ (∀ d, ad = some d → ∀ i j, i < n → j < 2 → S (d.add (i * 2 + j)) = some (.string (f i j))) ∧ ∀ i, i < n → Cs (RepV S) (get i) [.string (f i 0), .string (f i 1)] := by
      cases r0 with
      | nil => exact ⟨none, 0, fun _ _ => default, rfl, fun _ => rfl, fun d h => (by cases h), fun i h => by omega⟩
      | lst _ _ _ _ a2 cap f hnm hm hl hs2 hr2 h12 =>
        have hstr : ∀ i, i < n → ∃ x y, get i = [.v (.string x), .v (.string y)] ∧ f i 0 = .string x ∧ f i 1 = .string y := fun i hi => by
          have h2 := List.all_eq_true.1 hn.2 i (List.mem_range.2 hi)
          have hri := hr2 i
          unfold two at h2
          split at h2
          · rename_i x y hg
            rw [hg] at hri
            exact ⟨x, y, hg, strV (hri 0 _ (by omega) rfl), strV (hri 1 _ (by omega) rfl)⟩
          · cases h2
        have hst : ∃ g : Nat → Nat → ByteArray, ∀ i, i < n → get i = [.v (.string (g i 0)), .v (.string (g i 1))] ∧ f i 0 = .string (g i 0) ∧ f i 1 = .string (g i 1) :=
          ⟨fun i j => match f i j with | .string x => x | _ => default, fun i hi => by obtain ⟨x, y, e1, e2, e3⟩ := hstr i hi; simp [e1, e2, e3]⟩
        obtain ⟨g, hg⟩ := hst
        refine ⟨some a2, cap, g, rfl, fun h => (by cases h), fun d h i j hi hj => ?_, fun i hi => ?_⟩
        · cases h
          rw [hs2 i j (by omega) hj]
          match j, hj with
          | 0, _ => rw [(hg i hi).2.1]
          | 1, _ => rw [(hg i hi).2.2]
        · rw [(hg i hi).1]
          exact Cs.cons (.v _) (Cs.cons (.v _) Cs.nil)
    obtain ⟨ad, cap, f, rfl, hnil, hf, hrep⟩ := key
    refine ⟨0, fun k => #[.agg #[.string (f k 0), .string (f k 1)]], fun k row hk => ?_, fun dp y J J' Jx W hB hS hY hJ => ?_⟩
    · rw [List.getElem?_map] at hk
      by_cases hkn : k < n
      · rw [List.getElem?_range hkn] at hk
        cases hk
        refine Cs.cons ?_ Cs.nil
        obtain ⟨hl2, hc2⟩ := hrep k hkn
        exact .agg _ [.string (f k 0), .string (f k 1)] hl2 hc2
      · rw [List.getElem?_eq_none (by simpa using hkn)] at hk
        cases hk
    · rw [hlen] at hS hY ⊢
      exact comSeq_walk a _ h0 ad cap rfl hnil f hf hn.1 dp y J J' Jx W hB hS hY hJ
end Go.Proofs.Ytdagejfcnjndpaa.Sq
