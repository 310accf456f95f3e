/- What probe.Turns hands out: its summary. -/
import Derived.Test.YtkifbcjmmkbilaaTn
set_option linter.unusedVariables false
set_option linter.unusedSimpArgs false
namespace Go.Proofs.Ytkifbcjmmkbilaa.Tn
open Go Go.RowKit Go.Shelf Go.Open Go.Proofs.YtkifbcjmmkbilaaW.PrintWords Go.Proofs.Ytkifbcjmmkbilaa.Prb Go.Proofs.Ytkifbcjmmkbilaa.Av Go.Proofs.Ytkifbcjmmkbilaa.AvT Go.Proofs.Ytkifbcjmmkbilaa.AvS
attribute [local go_sem] Oper.semAt_some

def oneB : List AV → Bool
  | [.v (.bool _)] => true
  | _ => false
def bOf : List AV → Bool
  | [.v (.bool b)] => b
  | _ => false
def turnsL (rise fall : Int) (p : Probe) (l : List Bool) : List (Nat × Bool) := if mayB rise fall = true then tnL (p.Good, p.Bad, p.Ready) l rise fall l.length else []
def turnsSeq : List AV → Option (List (List AV))
  | [.ept [.v (.int .i64 rise)], .ept [.v (.int .i64 fall)], .ept [.v (.int .i64 a), .v (.int .i64 b), .v (.bool c)], .ept [.lst 1 n m get]] =>
    if n ≤ 9223372036854775807 ∧ (List.range n).all (fun i => oneB (get i)) = true then some ((turnsL rise fall ⟨a, b, c⟩ ((List.range n).map fun i => bOf (get i))).map fun x => [.v (.int .i64 ((x.1 : Nat) : Int)), .v (.bool x.2)]) else none
  | _ => none
theorem turns_rows (rise fall : Int) (p : Probe) (l : List Bool) (h : l.length ≤ 140737488355328) : turnsSeq [.ept [.v (.int .i64 rise)], .ept [.v (.int .i64 fall)], .ept (eProbe p), .ept [lstOf 1 eBool l []]] = some ((turnsL rise fall p l).map fun x => [.v (.int .i64 ((x.1 : Nat) : Int)), .v (.bool x.2)]) := by
  unfold turnsSeq lstOf eProbe
  have hat : ∀ i, i < l.length → nrm (l.length + ([] : List Bool).length) (fun i => eBool (el (l ++ []) i)) i = eBool (el l i) := fun i hi => by
    rw [nrm_at (by simp; omega), List.append_nil]
  show (if _ then some _ else none) = _
  rw [if_pos ⟨by omega, List.all_eq_true.2 fun i hi => by rw [hat i (List.mem_range.1 hi)]; rfl⟩]
  have e : ((List.range l.length).map fun i => bOf (nrm (l.length + ([] : List Bool).length) (fun i => eBool (el (l ++ []) i)) i)) = l := by
    apply List.ext_getElem
    · simp
    · intro i h1 h2
      simp only [List.getElem_map, List.getElem_range]
      rw [hat i h2]
      simp [el, bOf, eBool, List.getD_eq_getElem?_getD, List.getElem?_eq_getElem h2]
  rw [e]
set_option maxRecDepth 100000 in
set_option maxHeartbeats 2000000 in
theorem turns_no {S : Sto} (aR aF aP aL : Addr) (rise fall : Int) (hm : mayB rise fall = false) (hR : S aR = some (.int .i64 rise)) (hF : S aF = some (.int .i64 fall)) (dp y : Nat) (W : World) (him : ∀ a u, S a = some u → W.cell? a = some u) :
    CallsIn Fence.wide dp Try.prog 23 #[.func (.yield y) #[] #[], .pointer (some aR), .pointer (some aF), .pointer (some aP), .pointer (some aL)] W fun e W' => (∃ v, e = .returned v) ∧ StepR W.heap.size 0 W W' := by
  refine callsIn_of_wp_marks Try.func23 rfl trivial ?_ rfl
  simp only [Try.ntmps23, List.size_toArray, List.length_cons, List.length_nil, Nat.reduceAdd, Nat.reduceSub, Array.replicate_succ, Array.replicate_zero, List.push_toArray, List.append_toArray, List.nil_append, List.cons_append]
  have hb1 : Below W.heap.size W (W.alloc (.cells #[.func (.yield y) #[] #[]] 52)) := (Below.refl _ _).alloc (Nat.le_refl _) _
  have im1 : ∀ a u, S a = some u → (W.alloc (.cells #[.func (.yield y) #[] #[]] 52)).cell? a = some u := fun a u e => (hb1.cell (World.block_lt_of_cell? W _ (him a u e))).trans (him a u e)
  have cR := im1 _ _ hR
  have cF := im1 _ _ hF
  have HB := Lib.hid hb1
  clear him hb1 im1
  have C := fun w => may_calls rise fall w
  rw [hm] at C
  gi_wp2
  refine ⟨trivial, fun h => by simp [Fence.wide] at h, ?_⟩
  refine (callsIn_wide.2 (C _)).mono ?_
  rintro e w2 ⟨rfl, rfl⟩
  gi_wp2
  exact ⟨_, results_none rfl _ _ _, ⟨_, rfl⟩, .of_below HB.out⟩
theorem intV {S : Sto} {k : IntKind} {x : Int} {u : Value} (h : RepV S (.v (.int k x)) u) : u = .int k x := by cases h; rfl
theorem boolV {S : Sto} {x : Bool} {u : Value} (h : RepV S (.v (.bool x)) u) : u = .bool x := by cases h; rfl
theorem ept1 {S : Sto} {cs : List AV} {u : Value} (h : RepV S (.ept cs) u) : ∃ (a : Addr) (f : Nat → Value), u = .pointer (some a) ∧ (∀ j, j < cs.length → S (a.add j) = some (f j)) ∧ ∀ (j : Nat) x, cs[j]? = some x → RepV S x (f j) := by
  cases h with
  | ept _ a f hs hr => exact ⟨a, f, rfl, hs, hr⟩
theorem turns_ok {G : World → Prop} : SeqOk Try.prog G 23 turnsSeq := by
  intro S caps vs rows hc hq
  unfold turnsSeq at hq
  split at hq
  case h_2 => cases hq
  rename_i rise fall a b c n m get
  split at hq
  case isFalse => cases hq
  rename_i hn
  obtain rfl := (Option.some.inj hq).symm
  clear hq
  obtain ⟨u1, us, rfl, h1, hc⟩ := hc.tail
  obtain ⟨u2, us, rfl, h2, hc⟩ := hc.tail
  obtain ⟨u3, us, rfl, h3, hc⟩ := hc.tail
  obtain ⟨u4, us, rfl, h4, hc⟩ := hc.tail
  obtain rfl := hc.nil_inv
  obtain ⟨aR, fR, rfl, sR, rR⟩ := ept1 h1
  obtain ⟨aF, fF, rfl, sF, rF⟩ := ept1 h2
  obtain ⟨aP, fP, rfl, sP, rP⟩ := ept1 h3
  obtain ⟨aL, fL, rfl, sL, rL⟩ := ept1 h4
  have ad0 : ∀ a : Addr, a.add 0 = a := fun a => by simp [Addr.add]
  have hR := sR 0 (by simp)
  rw [ad0, intV (rR 0 _ rfl)] at hR
  have hF := sF 0 (by simp)
  rw [ad0, intV (rF 0 _ rfl)] at hF
  have hP0 := sP 0 (by simp)
  rw [ad0, intV (rP 0 _ rfl)] at hP0
  have hP1 := sP 1 (by simp)
  rw [intV (rP 1 _ rfl)] at hP1
  have hP2 := sP 2 (by simp)
  rw [boolV (rP 2 _ rfl)] at hP2
  have hL := sL 0 (by simp)
  rw [ad0] at hL
  have rL := rL 0 _ rfl
  obtain ⟨l, hl⟩ : ∃ l, ((List.range n).map fun i => bOf (get i)) = l := ⟨_, rfl⟩
  have hln : l.length = n := by rw [← hl]; simp
  rw [hl]
  have key : ∃ (ad : Option Addr) (cap : Nat), fL 0 = .slice ad l.length cap ∧ (0 < l.length → ∃ d, ad = some d ∧ ∀ j, j < l.length → S (d.add j) = some (.bool (l.getD j false))) := by
    rw [hln]
    generalize fL 0 = v at rL
    cases rL with
    | nil => exact ⟨none, 0, rfl, fun h => absurd h (Nat.lt_irrefl 0)⟩
    | lst _ _ _ _ a2 cap f hnm hm hlen hs2 hr2 h12 =>
      refine ⟨some a2, cap, rfl, fun _ => ⟨a2, rfl, fun j hj => ?_⟩⟩
      have h5 := List.all_eq_true.1 hn.2 j (List.mem_range.2 hj)
      have h6 := hs2 j 0 (by omega) (by omega)
      have h7 := hr2 j 0
      have h8 : l.getD j false = bOf (get j) := by rw [← hl]; simp [List.getD_eq_getElem?_getD, List.getElem?_map, List.getElem?_range hj]
      unfold oneB at h5
      split at h5
      · rename_i b' hg
        rw [hg] at h7 h8
        rw [Nat.mul_one, Nat.add_zero] at h6
        rw [h6, boolV (h7 _ (by omega) rfl), h8]
        rfl
      · cases h5
  obtain ⟨ad, cap, e, hcells⟩ := key
  rw [e] at hL
  obtain ⟨pb, po, ps⟩ := aP
  have hP1 : S ⟨pb, po + 1, none⟩ = some (.int .i64 b) := hP1
  have hP2 : S ⟨pb, po + 2, none⟩ = some (.bool c) := hP2
  by_cases hm : mayB rise fall = true
  · have er : turnsL rise fall ⟨a, b, c⟩ l = tnL (a, b, c) l rise fall l.length := by unfold turnsL; rw [if_pos hm]
    rw [er]
    refine ⟨8, tnE (a, b, c) l rise fall, fun k row hk => ?_, fun dp y J J' Jx W hB hS hY hJ => ?_⟩
    · rw [List.getElem?_map] at hk
      unfold tnE
      cases hx : (tnL (a, b, c) l rise fall l.length)[k]? with
      | none => rw [hx] at hk; cases hk
      | some z =>
        rw [hx] at hk
        cases hk
        exact Cs.cons (.v _) (Cs.cons (.v _) Cs.nil)
    · rw [List.length_map] at hS hY ⊢
      exact turns_walk aR aF aL pb po ps rise fall (a, b, c) ad cap l hm hR hF hP0 hP1 hP2 hL hcells (by omega) dp y J J' Jx W hB hS hY hJ
  · have hm : mayB rise fall = false := by simpa using hm
    have er : turnsL rise fall ⟨a, b, c⟩ l = [] := by unfold turnsL; rw [hm]; rfl
    rw [er]
    refine ⟨0, fun _ => #[], fun k row hk => by simp at hk, fun dp y J J' Jx W hB hS hY hJ => ?_⟩
    refine (turns_no aR aF ⟨pb, po, ps⟩ aL rise fall hm hR hF dp y W (hB 0 W hJ).1).mono ?_
    rintro e W' ⟨h1, h2⟩
    exact ⟨h1, .inl ⟨W, hJ, h2⟩⟩
end Go.Proofs.Ytkifbcjmmkbilaa.Tn
