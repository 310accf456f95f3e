/- DigestFields, in plain Lean. -/
import Derived.Test.YtalkodandfjkmaaAg0
import Derived.Test.YtalkodandfjkmaaMg1
set_option maxRecDepth 100000
set_option linter.unusedVariables false
set_option linter.unusedSimpArgs false
namespace Go.Proofs.Ytalkodandfjkmaa.Ag
open Go Go.RowKit Go.Proofs.Ytalkodandfjkmaa.Av Go.Proofs.Ytalkodandfjkmaa.AvT Go.Proofs.Ytalkodandfjkmaa.AvS

theorem long_some (o : Object) (h : o.Labels.length ≤ 9223372036854775807) : ∃ b, law05_long o = some b := by
  unfold law05_long law05_long_j0
  cases decide ((65536 : Int) < ((o.Image.size : Nat) : Int)) with
  | true => exact ⟨_, rfl⟩
  | false =>
    simp only [cond_false, Option.bind_some]
    cases decide ((1024 : Int) < ((o.Labels.length : Nat) : Int)) with
    | true => exact ⟨_, rfl⟩
    | false =>
      rw [cond_false, if_pos h]
      rcases rnd_inv2 (step := law05_long_0_s o) (I := fun _ _ => True) (O := fun _ => True) o.Labels.length 0 () trivial (fun j s _ _ _ => by
        unfold law05_long_0_s law05_long_j1
        cases decide ((65536 : Int) < (((el o.Labels j).Key.size : Nat) : Int)) with
        | true => exact .inr ⟨_, rfl, trivial⟩
        | false =>
          simp only [cond_false, optRes]
          cases decide ((65536 : Int) < (((el o.Labels j).Value.size : Nat) : Int)) with
          | true => exact .inr ⟨_, rfl, trivial⟩
          | false => exact .inl ⟨_, rfl, trivial⟩) with ⟨s, e, _⟩ | ⟨x, e, _⟩
      · rw [e]; exact ⟨_, rfl⟩
      · rw [e]; exact ⟨_, rfl⟩
theorem okTm_of {o : Object} (h : OkObject o) : okTm o := by
  obtain ⟨_, _, _, _, ⟨h1, h2, h3⟩, h4⟩ := h
  refine ⟨?_, Nat.ble_eq_true_of_le h2⟩
  unfold okTmL
  rw [Bool.and_eq_true]
  refine ⟨Nat.ble_eq_true_of_le h4.2.2.2.2.2.2.2.2.2.2.2.2.1, List.all_eq_true.2 fun x hx => ?_⟩
  obtain ⟨y, hy, rfl⟩ := List.mem_map.1 hx
  rw [Bool.and_eq_true]
  exact ⟨Nat.ble_eq_true_of_le (h3 y hy).1, Nat.ble_eq_true_of_le (h3 y hy).2⟩
def oImg (s : ByteArray) : Object := ⟨(0 : Int), (⟨#[]⟩ : ByteArray), (0 : Int), (0 : Int), [], (⟨(0 : Int), (0 : Int)⟩ : Amount), false, false, false, (0 : Int), (⟨#[]⟩ : ByteArray), (⟨#[]⟩ : ByteArray), (⟨#[]⟩ : ByteArray), (0 : Int), false, false, (⟨(0 : Int), (0 : Int)⟩ : Amount), s, (0 : Int), (0 : Int), (0 : Int), (0 : Int), (0 : Int), false, (0 : Int), [], (0 : Int), (⟨#[]⟩ : ByteArray), (0 : Int), (0 : Int)⟩
theorem unlike : decide (tmQ (oImg ⟨#[97]⟩) = tmQ (oImg ⟨#[98]⟩)) = false := by kernel_rfl
theorem okA (s : ByteArray) (h : s.size ≤ 140737488351232) : okTm (oImg s) := ⟨by unfold okTmL oImg; simp [Nat.ble_eq_true_of_le h], rfl⟩
theorem pure_DigestFields (o p : Object) (O0 : OkObject o) (O1 : OkObject p) : law05_DigestFields o p = some true := by
  have h0 := okTm_of O0
  have hs : okTm { p with Labels := o.Labels, Need := o.Need, Image := o.Image, Rise := o.Rise, Fall := o.Fall } := h0
  obtain ⟨b, hb⟩ := long_some o O0.2.2.2.2.1.2.1
  obtain ⟨b', hb'⟩ := long_some p O1.2.2.2.2.1.2.1
  have hj : ∃ d, law05_DigestFields_j0 o p = some d := by
    unfold law05_DigestFields_j0
    rw [hb, hb']
    cases b <;> exact ⟨_, rfl⟩
  obtain ⟨d, hd⟩ := hj
  have e : law05_DigestFields o p = bif true then (if okTm (oImg ⟨#[97]⟩) then (if okTm (oImg ⟨#[98]⟩) then (bif decide (tmQ (oImg ⟨#[97]⟩) = tmQ (oImg ⟨#[98]⟩)) then none else (Option.bind (law05_DigestFields_j0 o p) fun d16 => bif d16 then (some true) else (if okTm ({ p with Labels := o.Labels, Need := o.Need, Image := o.Image, Rise := o.Rise, Fall := o.Fall }) then (if okTm o then (some (decide (tmQ ({ p with Labels := o.Labels, Need := o.Need, Image := o.Image, Rise := o.Rise, Fall := o.Fall }) = tmQ o))) else none) else none))) else none) else none) else none := rfl
  rw [e, cond_true, if_pos (okA _ (by decide)), if_pos (okA _ (by decide)), unlike, cond_false, hd, Option.bind_some, if_pos hs, if_pos h0]
  have : tmQ { p with Labels := o.Labels, Need := o.Need, Image := o.Image, Rise := o.Rise, Fall := o.Fall } = tmQ o := rfl
  rw [this, decide_eq_true rfl]
  cases d <;> rfl
end Go.Proofs.Ytalkodandfjkmaa.Ag
