/- probe.All as a summary: what it answers of a probe and some outcomes. -/
import Derived.Test.YtkifbcjmmkbilaaProbe
import Derived.Test.YtkifbcjmmkbilaaAvY
import Derived.Test.YtkifbcjmmkbilaaAvB
set_option linter.unusedVariables false
set_option linter.unusedSimpArgs false
namespace Go.Proofs.Ytkifbcjmmkbilaa.Ag
open Go Go.RowKit Go.Proofs.Ytkifbcjmmkbilaa.Av Go.Proofs.Ytkifbcjmmkbilaa.Prb Go.Proofs.YtkifbcjmmkbilaaW.PrintWords

def bA : List AV → Option Bool
  | [.v (.bool b)] => some b
  | _ => none
def boolsA : List (List AV) → Option (List Bool)
  | [] => some []
  | x :: r => match bA x, boolsA r with
    | some b, some l => some (b :: l)
    | _, _ => none
theorem bA_inv {x : List AV} {b : Bool} (h : bA x = some b) : x = [.v (.bool b)] := by
  unfold bA at h
  split at h
  · obtain rfl := Option.some.inj h; rfl
  · cases h
theorem bools_len : ∀ (xs : List (List AV)) (l : List Bool), boolsA xs = some l → l.length = xs.length ∧ ∀ (k : Nat) b, l[k]? = some b → xs[k]? = some [.v (.bool b)]
  | [], l, h => by
    obtain rfl := Option.some.inj h
    exact ⟨rfl, fun k b hk => by simp at hk⟩
  | x :: r, l, h => by
    unfold boolsA at h
    split at h
    · rename_i b l' hb hl
      obtain rfl := Option.some.inj h
      obtain ⟨h1, h2⟩ := bools_len r l' hl
      refine ⟨by simp [h1], fun k c hk => ?_⟩
      cases k with
      | zero => simp at hk; subst hk; simp [bA_inv hb]
      | succ k => simp at hk; simp [h2 k c hk]
    · cases h
theorem bools_map (e : Bool → List AV) (he : ∀ b, e b = [.v (.bool b)]) : ∀ l : List Bool, boolsA (l.map e) = some l
  | [] => rfl
  | b :: l => by
    rw [List.map_cons, boolsA, bools_map e he l, he]
    rfl
theorem row_bools {S : Sto} {w : World} {n m : Nat} {get : Nat → List AV} {l : List Bool} {u : Value} (hb : boolsA ((List.range n).map get) = some l) (hx : RepV S (.lst 1 n m get) u) (himm : ∀ a u, S a = some u → w.cell? a = some u) (hn : n ≤ 9223372036854775807) :
    ∃ A c, u = .slice A l.length c ∧ Kd.bool.C w A l.length l := by
  obtain ⟨h1, h2⟩ := bools_len _ _ hb
  have hl : l.length = n := by simpa using h1
  cases hx with
  | nil =>
    obtain rfl := List.eq_nil_of_length_eq_zero hl
    exact ⟨none, 0, rfl, Kd.C_nil _ _⟩
  | lst _ _ _ _ a cap f hnm hcap hlen hs hr h1c =>
    refine ⟨some a, cap, by rw [hl], rfl, by omega, fun h0 => ⟨a, rfl, fun j p hp => ⟨[.bool p], rfl, rfl, fun i v hv => ?_⟩⟩⟩
    have hj : j < n := by have := (List.getElem?_eq_some_iff.1 hp).1; omega
    have h3 := h2 j p hp
    rw [List.getElem?_map, List.getElem?_range hj] at h3
    simp at h3
    cases i with
    | succ i => simp at hv
    | zero =>
      simp at hv
      subst hv
      have h4 := hr j 0 (.v (.bool p)) (by omega) (by rw [h3]; rfl)
      have h5 := himm _ _ (hs j 0 (by omega) (by omega))
      cases hv : f j 0 with
      | bool t => rw [hv] at h4 h5; cases h4; exact h5
      | _ => rw [hv] at h4; cases h4
def prbA : List AV → Option Pr
  | [.v (.int .i64 g), .v (.int .i64 b), .v (.bool r)] => some (g, b, r)
  | _ => none
theorem prb_inv {cs : List AV} {p : Pr} (h : prbA cs = some p) : cs = [.v (.int .i64 p.1), .v (.int .i64 p.2.1), .v (.bool p.2.2)] := by
  unfold prbA at h
  split at h
  · obtain rfl := Option.some.inj h; rfl
  · cases h
theorem models_of_calls3 {P : Program} {G : World → Prop} (hG : ∀ w w', G w → Below w.heap.size w w' → G w') {f : Nat} {m : List AV → Option (AV × List Blk)}
    (h : ∀ (S : Sto) (w : World) (bs : List AV) (vs : List Value) (r : AV) (Hr : List Blk), Cs (RepV S) bs vs → (∀ a u, S a = some u → w.cell? a = some u) → G w → m bs = some (r, Hr) → ∃ u, RepV S r u ∧ Hr = [] ∧ Calls P f vs.toArray w fun e w' => e = .returned u ∧ Below w.heap.size w w') : Models P G f m := by
  intro S w bs vs r Hr hvs himm hg e
  obtain ⟨u, hru, rfl, hc⟩ := h S w bs vs r Hr hvs himm hg e
  refine hc.mono ?_
  rintro e w' ⟨rfl, hb⟩
  have hlt : ∀ a v, S a = some v → a.block < w.heap.size := fun a v e => by
    have := himm a v e
    unfold World.cell? at this
    split at this
    · rename_i hq; exact (Array.getElem?_eq_some_iff.1 hq).1
    · cases this
  refine ⟨u, S, fun _ => none, rfl, S.le_refl, fun _ _ e _ => e, ⟨⟨fun k cs e => by simp at e, fun k e sz ver bv es q => by simp at q, fun k k' b l => by obtain ⟨⟨x, hx, _⟩, _⟩ := l; simp at hx, fun a u e k l => by obtain ⟨⟨x, hx, _⟩, _⟩ := l; simp at hx⟩, fun a v e => ?_, hb, hb.size, hG _ _ hg hb, KeepsOthers.of_below hb, Avd.none _ _ _ _, fun b hb => hb.elim⟩, .val _ _ hru⟩
  rw [hb.cell (hlt a v e)]
  exact himm a v e
def prbC (p : Pr) : AV := .agg [.v (.int .i64 p.1), .v (.int .i64 p.2.1), .v (.bool p.2.2)]
def allA (p : Pr) (l : List Bool) (rise fall : Int) : AV := match mayB rise fall with
  | true => .tup [prbC (allP p l rise fall), .v .nilIface]
  | false => .tup [prbC (0, 0, false), .v (.iface 48 (.int .i64 1))]
theorem rep2 {S : Sto} {x y : AV} {u v : Value} (h : RepV S x u) (k : RepV S y v) : RepV S (.tup [x, y]) (.tuple #[u, v]) :=
  .tup [x, y] [u, v] rfl fun j a b ha hb => by
    match j with
    | 0 => simp at ha hb; subst ha; subst hb; exact h
    | 1 => simp at ha hb; subst ha; subst hb; exact k
    | j + 2 => simp at ha
theorem rep_prb {S : Sto} (p : Pr) : RepV S (prbC p) (enc p) :=
  .agg [.v (.int .i64 p.1), .v (.int .i64 p.2.1), .v (.bool p.2.2)] [.int .i64 p.1, .int .i64 p.2.1, .bool p.2.2] rfl fun j a b ha hb => by
    match j with
    | 0 => simp at ha hb; subst ha; subst hb; exact .v _
    | 1 => simp at ha hb; subst ha; subst hb; exact .v _
    | 2 => simp at ha hb; subst ha; subst hb; exact .v _
    | j + 3 => simp at ha
def allV (p : Pr) (l : List Bool) (rise fall : Int) : Value := match mayB rise fall with
  | true => .tuple #[enc (allP p l rise fall), .nilIface]
  | false => .tuple #[enc (0, 0, false), .iface 48 (.int .i64 1)]
/-- What All answers. -/
def allM : List AV → Option (AV × List Blk)
  | [.agg cs, .lst 1 n _ get, .v (.int .i64 rise), .v (.int .i64 fall)] => match prbA cs, boolsA ((List.range n).map get), Nat.ble n 9223372036854775807 with
    | some p, some l, true => some (allA p l rise fall, [])
    | _, _, _ => none
  | _ => none
theorem all_models {G : World → Prop} (hG : ∀ w w', G w → Below w.heap.size w w' → G w') : Models Try.prog G 9 allM := by
  refine models_of_calls3 hG fun S w bs vs r Hr hvs himm hg e => ?_
  unfold allM at e
  split at e
  · rename_i cs n m get rise fall
    split at e
    · rename_i p l hp hb hn
      simp only [Option.some.injEq, Prod.mk.injEq] at e
      obtain ⟨rfl, rfl⟩ := e
      obtain ⟨u1, us, rfl, h1, hr⟩ := hvs.tail
      obtain ⟨u2, us, rfl, h2, hr⟩ := hr.tail
      obtain ⟨u3, us, rfl, h3, hr⟩ := hr.tail
      obtain ⟨u4, us, rfl, h4, hr⟩ := hr.tail
      obtain rfl := hr.nil_inv
      cases h3
      cases h4
      obtain ⟨A, c, rfl, hC⟩ := row_bools hb h2 himm (Nat.le_of_ble_eq_true hn)
      obtain rfl := prb_inv hp
      have hu1 : u1 = enc p := by
        cases h1 with
        | agg _ us hl h =>
          match us, hl with
          | [a, b, d], _ =>
            have q0 := h 0 _ _ rfl rfl
            have q1 := h 1 _ _ rfl rfl
            have q2 := h 2 _ _ rfl rfl
            cases q0
            cases q1
            cases q2
            rfl
      subst hu1
      refine ⟨allV p l rise fall, ?_, rfl, (all_calls p A c l rise fall w hC).mono ?_⟩
      · unfold allA allV
        cases mayB rise fall with
        | true => exact rep2 (rep_prb _) (.v _)
        | false => exact rep2 (rep_prb _) (.v _)
      rintro e w' ⟨rfl, hbl⟩
      refine ⟨?_, hbl⟩
      unfold allV
      cases mayB rise fall <;> rfl
    · cases e
  · cases e
end Go.Proofs.Ytkifbcjmmkbilaa.Ag
