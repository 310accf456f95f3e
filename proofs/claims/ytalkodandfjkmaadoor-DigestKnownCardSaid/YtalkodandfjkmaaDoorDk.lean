/- The functions of package digest, and works, as summaries. -/
import Derived.Test.YtalkodandfjkmaaDoorPrintx3
import Derived.Test.YtalkodandfjkmaaDoorTm
set_option linter.unusedVariables false
set_option linter.unusedSimpArgs false
namespace Go.Proofs.YtalkodandfjkmaaDoor.Ag
open Go Go.RowKit Go.Proofs.YtalkodandfjkmaaDoor.Av Go.Proofs.YtalkodandfjkmaaDoorW.PrintWords Go.Proofs.YtalkodandfjkmaaDoor.Print
/-- It works. -/
def worksM : List AV → Option (AV × List Blk)
  | [] => some (.v (.bool true), [])
  | _ => none
theorem works_models {G : World → Prop} (hG : ∀ w w', G w → Below w.heap.size w w' → G w') : Models Tryd.prog G 10 worksM := by
  refine models_of_calls hG fun S w bs vs r Hr hvs hg e => ?_
  unfold worksM at e
  split at e
  · simp only [Option.some.injEq, Prod.mk.injEq] at e
    obtain ⟨rfl, rfl⟩ := e
    obtain rfl := hvs.nil_inv
    exact ⟨_, rfl, rfl, flotillalaw05_works.calls true w rfl⟩
  · cases e
theorem worksM_eq : worksM [] = some (.v (.bool true), []) := rfl

def txM : List AV → Option (AV × List Blk)
  | [.v (.int .u64 h)] => some (.v (.string (Dig.textB h)), [])
  | _ => none
theorem tx_models {G : World → Prop} (hG : ∀ w w', G w → Below w.heap.size w w' → G w') : Models Tryd.prog G 7 txM := by
  refine models_of_calls hG fun S w bs vs r Hr hvs hg e => ?_
  unfold txM at e
  split at e
  · rename_i h
    simp only [Option.some.injEq, Prod.mk.injEq] at e
    obtain ⟨rfl, rfl⟩ := e
    obtain ⟨u, us, rfl, hx, hr⟩ := hvs.tail
    obtain rfl := hr.nil_inv
    cases hx
    exact ⟨_, rfl, rfl, Dig.text_calls h w⟩
  · cases e
def txQ (h : Int) : ByteArray := Dig.textB h
theorem txM_eq (h : Int) : txM [.v (.int .u64 h)] = some (.v (.string (txQ h)), []) := rfl

def paM : List AV → Option (AV × List Blk)
  | [.v (.string s)] => match digest_Parse.f 60 s with
    | some (r, e) => some (.v (.tuple #[.int .u64 r, errW e]), [])
    | none => none
  | _ => none
theorem pa_models {G : World → Prop} (hG : ∀ w w', G w → Below w.heap.size w w' → G w') : Models Tryd.prog G 6 paM := by
  refine models_of_calls hG fun S w bs vs r Hr hvs hg e => ?_
  unfold paM at e
  split at e
  · rename_i s
    split at e
    · rename_i r1 r2 hp
      simp only [Option.some.injEq, Prod.mk.injEq] at e
      obtain ⟨rfl, rfl⟩ := e
      obtain ⟨u, us, rfl, hx, hr⟩ := hvs.tail
      obtain rfl := hr.nil_inv
      cases hx
      refine ⟨_, rfl, rfl, (digest_Parse.calls 60 s r1 r2 w hp).mono ?_⟩
      rintro e w' ⟨rfl, nd, rfl⟩
      exact ⟨rfl, pw_below_drewN (Below.refl w.heap.size w) nd⟩
    · cases e
  · cases e

def u8A : List AV → Option Int
  | [.v (.int .u8 b)] => some b
  | _ => none
def u8sA : List (List AV) → Option (List Int)
  | [] => some []
  | x :: r => match u8A x, u8sA r with
    | some b, some l => some (b :: l)
    | _, _ => none
theorem u8A_inv {x : List AV} {b : Int} (h : u8A x = some b) : x = [.v (.int .u8 b)] := by
  unfold u8A at h
  split at h
  · obtain rfl := Option.some.inj h; rfl
  · cases h
theorem u8s_len : ∀ (xs : List (List AV)) (l : List Int), u8sA xs = some l → l.length = xs.length ∧ ∀ (k : Nat) b, l[k]? = some b → xs[k]? = some [.v (.int .u8 b)]
  | [], l, h => by
    obtain rfl := Option.some.inj h
    exact ⟨rfl, fun k b hk => by simp at hk⟩
  | x :: r, l, h => by
    unfold u8sA at h
    split at h
    · rename_i b l' hb hl
      obtain rfl := Option.some.inj h
      obtain ⟨h1, h2⟩ := u8s_len r l' hl
      refine ⟨by simp [h1], fun k c hk => ?_⟩
      cases k with
      | zero => simp at hk; subst hk; simp [u8A_inv hb]
      | succ k => simp at hk; simp [h2 k c hk]
    · cases h
theorem u8s_map (e : Int → List AV) (he : ∀ b, e b = [.v (.int .u8 b)]) : ∀ l : List Int, u8sA (l.map e) = some l
  | [] => rfl
  | b :: l => by
    rw [List.map_cons, u8sA, u8s_map e he l, he]
    rfl
theorem row_u8s {S : Sto} {w : World} {n m : Nat} {get : Nat → List AV} {l : List Int} {u : Value} (hb : u8sA ((List.range n).map get) = some l) (hx : RepV S (.lst 1 n m get) u) (himm : ∀ a u, S a = some u → w.cell? a = some u) (hn : n ≤ 9223372036854775807) :
    ∃ A c, u = .slice A l.length c ∧ Kd.C (Kd.int .u8) w A l.length l := by
  obtain ⟨h1, h2⟩ := u8s_len _ _ hb
  have hl : l.length = n := by simpa using h1
  cases hx with
  | nil =>
    obtain rfl := List.eq_nil_of_length_eq_zero hl
    exact ⟨none, 0, rfl, Kd.C_nil _ _⟩
  | lst _ _ _ _ a cap f hnm hcap hlen hs hr h1c =>
    refine ⟨some a, cap, by rw [hl], rfl, by omega, fun h0 => ⟨a, rfl, fun j p hp => ⟨[.int .u8 p], rfl, rfl, fun i v hv => ?_⟩⟩⟩
    have hj : j < n := by have := (List.getElem?_eq_some_iff.1 hp).1; omega
    have h3 := h2 j p hp
    rw [List.getElem?_map, List.getElem?_range hj] at h3
    simp at h3
    cases i with
    | succ i => simp at hv
    | zero =>
      simp at hv
      subst hv
      have h4 := hr j 0 (.v (.int .u8 p)) (by omega) (by rw [h3]; rfl)
      have h5 := himm _ _ (hs j 0 (by omega) (by omega))
      cases hv : f j 0 with
      | int k t => rw [hv] at h4 h5; cases h4; exact h5
      | _ => rw [hv] at h4; cases h4
def ofQ (l : List Int) : Int := Dig.fnvL 14695981039346656037 l
def ofM : List AV → Option (AV × List Blk)
  | [.lst 1 n _ get] => match u8sA ((List.range n).map get), Nat.ble n 9223372036854775807 with
    | some l, true => some (.v (.int .u64 (ofQ l)), [])
    | _, _ => none
  | [.v (.slice none 0 0)] => some (.v (.int .u64 (ofQ [])), [])
  | _ => none
theorem of_models {G : World → Prop} (hG : ∀ w w', G w → Below w.heap.size w w' → G w') : Models Tryd.prog G 11 ofM := by
  refine models_of_calls' hG fun S w bs vs r Hr hvs himm hg e => ?_
  unfold ofM at e
  split at e
  · rename_i n m get
    split at e
    · rename_i l hb hn
      simp only [Option.some.injEq, Prod.mk.injEq] at e
      obtain ⟨rfl, rfl⟩ := e
      obtain ⟨u, us, rfl, hx, hr⟩ := hvs.tail
      obtain rfl := hr.nil_inv
      obtain ⟨A, c, rfl, hC⟩ := row_u8s hb hx himm (Nat.le_of_ble_eq_true hn)
      exact ⟨_, rfl, rfl, Dig.of_calls A c l w hC⟩
    · cases e
  · simp only [Option.some.injEq, Prod.mk.injEq] at e
    obtain ⟨rfl, rfl⟩ := e
    obtain ⟨u, us, rfl, hx, hr⟩ := hvs.tail
    obtain rfl := hr.nil_inv
    cases hx
    exact ⟨_, rfl, rfl, Dig.of_calls none 0 [] w (Kd.C_nil _ _)⟩
  · cases e
theorem ofM_eq_nil (h : Nat.ble ([] : List Int).length 9223372036854775807 = true) : ofM [.v (.slice none 0 0)] = some (.v (.int .u64 (ofQ [])), []) := rfl
end Go.Proofs.YtalkodandfjkmaaDoor.Ag
