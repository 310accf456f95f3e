/- digest.Template as a summary: what it answers of an object. -/
import Derived.Test.YtnoaglgjhgnnfaaDigT
import Derived.Test.YtnoaglgjhgnnfaaAvX
import Derived.Test.YtnoaglgjhgnnfaaAvB
set_option linter.unusedVariables false
set_option linter.unusedSimpArgs false
namespace Go.Proofs.Ytnoaglgjhgnnfaa.Ag
open Go Go.RowKit Go.Proofs.Ytnoaglgjhgnnfaa.Av Go.Proofs.YtnoaglgjhgnnfaaW.PrintWords

def lbA : List AV → Option (ByteArray × ByteArray)
  | [.v (.string k), .v (.string x)] => some (k, x)
  | _ => none
def lbsA : List (List AV) → Option (List (ByteArray × ByteArray))
  | [] => some []
  | x :: r => match lbA x, lbsA r with
    | some b, some l => some (b :: l)
    | _, _ => none
theorem lbA_inv {x : List AV} {b : ByteArray × ByteArray} (h : lbA x = some b) : x = [.v (.string b.1), .v (.string b.2)] := by
  unfold lbA at h
  split at h
  · obtain rfl := Option.some.inj h; rfl
  · cases h
theorem lbs_len : ∀ (xs : List (List AV)) (l : List (ByteArray × ByteArray)), lbsA xs = some l → l.length = xs.length ∧ ∀ (k : Nat) b, l[k]? = some b → xs[k]? = some [.v (.string b.1), .v (.string b.2)]
  | [], l, h => by
    obtain rfl := Option.some.inj h
    exact ⟨rfl, fun k b hk => by simp at hk⟩
  | x :: r, l, h => by
    unfold lbsA at h
    split at h
    · rename_i b l' hb hl
      obtain rfl := Option.some.inj h
      obtain ⟨h1, h2⟩ := lbs_len r l' hl
      refine ⟨by simp [h1], fun k c hk => ?_⟩
      cases k with
      | zero => simp at hk; subst hk; simp [lbA_inv hb]
      | succ k => simp at hk; simp [h2 k c hk]
    · cases h
theorem lbs_map {α : Type} (e : α → List AV) (f : α → ByteArray × ByteArray) (he : ∀ b, e b = [.v (.string (f b).1), .v (.string (f b).2)]) : ∀ l : List α, lbsA (l.map e) = some (l.map f)
  | [] => rfl
  | b :: l => by
    rw [List.map_cons, lbsA, lbs_map e f he l, he]
    rfl
theorem row_lbs {S : Sto} {w : World} {n m : Nat} {get : Nat → List AV} {l : List (ByteArray × ByteArray)} {u : Value} (hb : lbsA ((List.range n).map get) = some l) (hx : RepV S (.lst 2 n m get) u) (himm : ∀ a u, S a = some u → w.cell? a = some u) (hn : n ≤ 9223372036854775807) :
    ∃ A c, u = .slice A l.length c ∧ Kd.C (Kd.pair Kd.string Kd.string) w A l.length l := by
  obtain ⟨h1, h2⟩ := lbs_len _ _ hb
  have hl : l.length = n := by simpa using h1
  cases hx with
  | nil =>
    obtain rfl := List.eq_nil_of_length_eq_zero hl
    exact ⟨none, 0, rfl, Kd.C_nil _ _⟩
  | lst _ _ _ _ a cap f hnm hcap hlen hs hr h1c =>
    refine ⟨some a, cap, by rw [hl], rfl, by omega, fun h0 => ⟨a, rfl, fun j p hp => ⟨[.string p.1, .string p.2], rfl, ⟨[.string p.1], [.string p.2], rfl, rfl, rfl⟩, fun i v hv => ?_⟩⟩⟩
    have hj : j < n := by have := (List.getElem?_eq_some_iff.1 hp).1; omega
    have h3 := h2 j p hp
    rw [List.getElem?_map, List.getElem?_range hj] at h3
    simp at h3
    have key : ∀ (i : Nat) (t : ByteArray), i < 2 → (get j)[i]? = some (.v (.string t)) → w.cell? (a.add (j * 2 + i)) = some (.string t) := fun i t hi hg => by
      have h4 := hr j i _ (by omega) hg
      have h5 := himm _ _ (hs j i (by omega) hi)
      cases hv : f j i with
      | string t' => rw [hv] at h4 h5; cases h4; exact h5
      | _ => rw [hv] at h4; cases h4
    match i, hv with
    | 0, hv => simp at hv; subst hv; exact key 0 _ (by omega) (by rw [h3]; rfl)
    | 1, hv => simp at hv; subst hv; exact key 1 _ (by omega) (by rw [h3]; rfl)
    | i + 2, hv => simp at hv
def okTmL (img : ByteArray) (l : List (ByteArray × ByteArray)) : Bool := Nat.ble img.size 140737488351232 && l.all fun x => Nat.ble x.1.size 140737488351232 && Nat.ble x.2.size 140737488351232
def tmV (img : ByteArray) (cpu mem rise fall : Int) (l : List (ByteArray × ByteArray)) : Int := Dig.fnvL 14695981039346656037 (Dig.itsB (Dig.tmplIts img cpu mem rise fall l ++ Dig.labIts l))
/-- What Template answers. -/
def tmM : List AV → Option (AV × List Blk)
  | [.agg [_, _, _, _, .lst 2 n _ get, _, _, _, _, _, _, _, _, _, _, _, _, .v (.int .i64 cpu), .v (.int .i64 mem), .v (.string img), .v (.int .i64 rise), .v (.int .i64 fall), _, _, _, _, _, _, _, _, _, _]] =>
    match lbsA ((List.range n).map get), Nat.ble n 9223372036854775807 with
    | some l, true => match okTmL img l with
      | true => some (.v (.int .u64 (tmV img cpu mem rise fall l)), [])
      | false => none
    | _, _ => none
  | _ => none
theorem rep_at {S : Sto} {cs : List AV} {us : List Value} (h : ∀ (j : Nat) x u, cs[j]? = some x → us[j]? = some u → RepV S x u) {j : Nat} {v u : Value} (hx : cs[j]? = some (.v v)) (hu : us[j]? = some u) : u = v := by
  have := h j _ _ hx hu
  cases this
  rfl
set_option maxHeartbeats 1000000 in
theorem tm_models {G : World → Prop} (hG : ∀ w w', G w → Below w.heap.size w w' → G w') : Models Try.prog G 48 tmM := by
  refine models_of_calls' hG fun S w bs vs r Hr hvs himm hg e => ?_
  unfold tmM at e
  split at e
  · rename_i n m get cpu mem img rise fall _ _ _ _ _ _ _ _ _ _
    split at e
    · rename_i l hb hn
      split at e
      · rename_i hok
        simp only [Option.some.injEq, Prod.mk.injEq] at e
        obtain ⟨rfl, rfl⟩ := e
        obtain ⟨u1, us, rfl, h1, hr⟩ := hvs.tail
        obtain rfl := hr.nil_inv
        cases h1 with
        | agg _ us hl h =>
          simp only [List.length_cons, List.length_nil, Nat.zero_add, Nat.reduceAdd] at hl
          match us, hl with
          | [v0, v1, v2, v3, v4, v5, v6, v7, v8, v9, v10, v11, v12, v13, v14, v15, v16, v17, v18, v19, v20, v21, v22, v23, v24, v25, v26, v27, v28, v29, v30, v31], _ =>
            obtain rfl := rep_at h (j := 17) rfl rfl
            obtain rfl := rep_at h (j := 18) rfl rfl
            obtain rfl := rep_at h (j := 19) rfl rfl
            obtain rfl := rep_at h (j := 20) rfl rfl
            obtain rfl := rep_at h (j := 21) rfl rfl
            obtain ⟨A, c, rfl, hC⟩ := row_lbs hb (h 4 _ _ rfl rfl) himm (Nat.le_of_ble_eq_true hn)
            unfold okTmL at hok
            rw [Bool.and_eq_true] at hok
            exact ⟨_, rfl, rfl, Dig.template_calls A c l _ _ _ _ _ v0 v1 v2 v3 v5 v6 v7 v8 v9 v10 v11 v12 v13 v14 v15 v16 v22 v23 v24 v25 v26 v27 v28 v29 v30 v31 w hC (Nat.le_of_ble_eq_true hok.1) fun x hx => by
              have := List.all_eq_true.1 hok.2 x hx
              rw [Bool.and_eq_true] at this
              exact ⟨Nat.le_of_ble_eq_true this.1, Nat.le_of_ble_eq_true this.2⟩⟩
      · cases e
    · cases e
  · cases e
end Go.Proofs.Ytnoaglgjhgnnfaa.Ag
