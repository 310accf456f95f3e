/- slices.Clone of bools, walked by hand: a list of its own with the same elements. -/
import Derived.Test.YtkifbcjmmkbilaaProg
import Derived.WalkKit
import Derived.Tactics2
import Derived.Below
import Derived.Lib.Hide
import Derived.OwnWalk
import Derived.Test.YtkifbcjmmkbilaaAvB
set_option linter.unusedVariables false
set_option linter.unusedSimpArgs false
namespace Go.Proofs.Ytkifbcjmmkbilaa.Ag
open Go Go.RowKit Go.Proofs.Ytkifbcjmmkbilaa.Av

theorem wpList_val {P : Program} {w w' : World} {ops : Array Oper} {rest : List Oper} {o : Oper} {a : Act} {Q : Exit → Act → World → Prop} (hg : o.guard = none) {v : Value} (hr : (execOp a.eval o).run P w = .ok (.value v) w') (h : wpList P ops Q rest (a.put o.dst v) w') : wpList P ops Q (o :: rest) a w := by
  refine wpList_plain hg fun K hK => ?_
  unfold Oper.wp
  rw [hr]
  exact hK _ _ h
theorem Clb.info : (Try.prog.info? 4).map (fun i => (i.zero, i.size, i.bytes)) = some (some (.bool false), 1, 1) := by kernel_rfl
set_option maxRecDepth 100000 in
theorem clob_none (w : World) : Calls Try.prog 22 #[.slice none 0 0] w fun e w' => e = .returned (.slice none 0 0) ∧ w' = w := by
  go_enter Try.func22, Try.ntmps22
  have heq : (binOp BinOp.eql 24 (.slice none 0 0) (.slice none 0 0)).run Try.prog w = .ok (.bool true) w := by kernel_rfl
  go_wp2
  go_ret
  exact ⟨rfl, rfl⟩
set_option maxRecDepth 100000 in
theorem clob_some (a : Addr) (n cap : Nat) (news : List Value) (w : World) (hl : news.length = n * 1) (hc : ∀ (j : Nat) v, news[j]? = some v → w.cell? (a.add j) = some v) (h1 : ∀ v ∈ news, v.oneCell' = true) (hb : n * 1 ≤ 140737488355328) (hm : n ≤ maxLen) :
    Calls Try.prog 22 #[.slice (some a) n cap] w fun e w' => ∃ p', e = .returned (slv p' n) ∧ w'.ownsRow w.heap.size 4 1 (slv p' n) n news ∧ Below w.heap.size w w' ∧ (p' = none → n = 0) := by
  obtain ⟨i, hi, hz, hs, hby⟩ := info_of Clb.info
  have heq : (binOp BinOp.eql 24 (.slice (some a) n cap) (.slice none 0 0)).run Try.prog w = .ok (.bool false) w := by kernel_rfl
  have hlit : (w.alloc (.cells #[] 4)).ownsRow w.heap.size 4 1 (slv (some (w.heap.size, 0)) 0) 0 [] := ⟨by simp, .inr ⟨w.heap.size, 0, #[], rfl, Nat.le_refl _, heap_alloc_new w _, Nat.le_refl _, by simp [maxLen], by simp, by simp⟩⟩
  have hx : ((Value.slice (some a) n cap) = .slice none 0 0 ∧ n = 0 ∧ news = []) ∨ ∃ ad c, (Value.slice (some a) n cap) = .slice (some ad) n c ∧ ∀ (j : Nat) v, news[j]? = some v → (w.alloc (.cells #[] 4)).cell? (ad.add j) = some v := .inr ⟨a, cap, rfl, fun j v hv => by
    have h := hc j v hv
    have hlt : (a.add j).block < w.heap.size := by
      unfold World.cell? at h
      split at h
      · rename_i hq; exact (Array.getElem?_eq_some_iff.1 hq).1
      · cases h
    rw [((Below.refl _ w).alloc (Nat.le_refl _) _).cell hlt]
    exact h⟩
  obtain ⟨p', w2, hr, hown, hgr, hp, hpn⟩ := append_run (P := Try.prog) (B := w.heap.size) (p := some (w.heap.size, 0)) (n := 0) (xs := []) (ty := 24) Try.underlying24 hi hz hs hby rfl (by decide) hlit (by simp) hx hl h1 (by simpa using hb) (by simpa using hm)
  go_enter Try.func22, Try.ntmps22
  go_wp2_with (first
    | (at_builtin; refine wpList_val rfl (exec_append (t := 24) (s := .tmp 5) (x := .tmp 6) rfl rfl rfl rfl hr) ?_)
    | fail)
  simp only [Nat.zero_add, List.nil_append] at hown hgr hpn
  go_ret
  exact ⟨p', rfl, hown, ((Below.refl _ w).alloc (Nat.le_refl _) _).grown hgr (by simp) (fun j hj => by cases hj; exact Nat.le_refl _), hpn⟩
/-- What Clone answers. -/
def clobM : List AV → Option (AV × List Blk)
  | [.lst 1 n _ get] => match Nat.ble (n * 1) 140737488355328, Nat.ble n maxLen with
    | true, true => some (.own 0 0, [.grow 4 1 0 true ((List.range n).map get)])
    | _, _ => none
  | _ => none
theorem clob_models {G : World → Prop} (hG : ∀ w w', G w → Below w.heap.size w w' → G w') : Models Try.prog G 22 clobM := by
  intro S w bs vs r Hr hvs himm hg e
  unfold clobM at e
  split at e
  · rename_i n m get
    split at e
    · rename_i hb hm
      simp only [Option.some.injEq, Prod.mk.injEq] at e
      obtain ⟨rfl, rfl⟩ := e
      obtain ⟨u, us, rfl, hx, hr⟩ := hvs.tail
      obtain rfl := hr.nil_inv
      have hw : WRel noA G w.heap.size w S [] (fun _ => none) w := by
        refine ⟨⟨fun k cs e => by simp at e, fun k e sz ver bv es q => by simp at q, fun k k' b l => by obtain ⟨⟨x, hx, _⟩, _⟩ := l; simp at hx, fun a u e k l => by obtain ⟨⟨x, hx, _⟩, _⟩ := l; simp at hx⟩, himm, Below.refl _ _, Nat.le_refl _, hg, KeepsOthers.refl _, Avd.none _ _ _ _, fun b hb => hb.elim⟩
      have hnl : ((List.range n).map get).length = n := by simp
      obtain ⟨news, hu, hl, hcs, h1, hel, hbv⟩ := appArg_sound hw (sz := 1) (by decide) (.val _ _ hx) (new := (List.range n).map get) (nbv := true) (by simp [appArg])
      have fin : ∀ (p' : Option (Nat × Nat)) (w' : World), w'.ownsRow w.heap.size 4 1 (slv p' n) n news → Below w.heap.size w w' → (p' = none → n = 0) →
          ∃ u S' plr, Ending.returned (slv p' n) = .returned u ∧ S.le S' ∧ (∀ a u, S' a = some u → a.block < w.heap.size → S a = some u) ∧ WRel noA G w.heap.size w S' [.grow 4 1 0 true ((List.range n).map get)] plr w' ∧ Rep S' [.grow 4 1 0 true ((List.range n).map get)] plr (.own 0 0) u := fun p' w' ho hbl hpn => by
        refine ⟨_, S, pushPl 0 (fun _ => none) p', rfl, S.le_refl, fun _ _ e _ => e, hw.push (fun w' hb => hG w w' hg hb) hbl (x := .grow 4 1 0 true ((List.range n).map get)) (p := p') ⟨by decide, hel, fun hp' => List.eq_nil_of_length_eq_zero (by rw [hnl]; exact hpn hp'), hbv, news, by rw [hnl]; exact ho, hcs, h1⟩, .own _ _ _ (by simp) (by cases p' <;> rfl) fun e' sz' v bv es qq => ?_⟩
        simp at qq
        obtain ⟨rfl, rfl, rfl, rfl, rfl⟩ := qq
        simp [pushPl]
      rw [hnl] at hu hl
      rcases hu with ⟨rfl, h0, hn⟩ | ⟨ad, c, rfl, hc⟩
      · refine (clob_none w).mono ?_
        rintro e w' ⟨rfl, rfl⟩
        subst h0
        subst hn
        exact fin none w' (World.ownsRow_nil _ _ _ _) (Below.refl _ _) (fun _ => rfl)
      · refine (clob_some ad n c news w hl hc h1 (Nat.le_of_ble_eq_true hb) (Nat.le_of_ble_eq_true hm)).mono ?_
        rintro e w' ⟨p', rfl, ho, hbl, hpn⟩
        exact fin p' w' ho hbl hpn
    · cases e
  · cases e
end Go.Proofs.Ytkifbcjmmkbilaa.Ag
