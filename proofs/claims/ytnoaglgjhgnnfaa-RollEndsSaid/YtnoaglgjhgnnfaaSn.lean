/- roll.SetName as a summary that can be computed, and what is said of closed functions by it. Written by a program of this session. -/
import Derived.Test.YtnoaglgjhgnnfaaAg3
set_option linter.unusedVariables false
set_option linter.unusedSimpArgs false
set_option maxRecDepth 1000000
namespace Go.Proofs.Ytnoaglgjhgnnfaa.Ag
open Go Go.RowKit Go.Proofs.Ytnoaglgjhgnnfaa.Av Go.Proofs.Ytnoaglgjhgnnfaa.AvT Go.Proofs.Ytnoaglgjhgnnfaa.AvS
def snT (nm : ByteArray) (h : Int) : ByteArray := nm ++ (⟨#[45]⟩ : ByteArray) ++ Dig.textB h
noncomputable def snM : List AV → Option (AV × List Blk)
  | [.agg [.v (.int .i64 x0), .v (.string nm), .v (.int .i64 x2), .v (.int .i64 x3), .lst 2 n m get, .v (.int .i64 x5), .v (.int .i64 x6), .v (.bool x7), .v (.bool x8), .v (.bool x9), .v (.int .i64 x10), .v (.string x11), .v (.string x12), .v (.string x13), .v (.int .i64 x14), .v (.bool x15), .v (.bool x16), .v (.int .i64 x17), .v (.int .i64 x18), .v (.string x19), .v (.int .i64 x20), .v (.int .i64 x21), .v (.int .i64 x22), .v (.int .i64 x23), .v (.int .i64 x24), .v (.bool x25), .v (.int .u64 x26), .lst 2 n2 m2 get2, .v (.int .i64 x28), .v (.string x29), .v (.int .i64 x30), .v (.int .i64 x31)]] =>
    match tmM [.agg [.v (.int .i64 x0), .v (.string nm), .v (.int .i64 x2), .v (.int .i64 x3), .lst 2 n m get, .v (.int .i64 x5), .v (.int .i64 x6), .v (.bool x7), .v (.bool x8), .v (.bool x9), .v (.int .i64 x10), .v (.string x11), .v (.string x12), .v (.string x13), .v (.int .i64 x14), .v (.bool x15), .v (.bool x16), .v (.int .i64 x17), .v (.int .i64 x18), .v (.string x19), .v (.int .i64 x20), .v (.int .i64 x21), .v (.int .i64 x22), .v (.int .i64 x23), .v (.int .i64 x24), .v (.bool x25), .v (.int .u64 x26), .lst 2 n2 m2 get2, .v (.int .i64 x28), .v (.string x29), .v (.int .i64 x30), .v (.int .i64 x31)]] with
    | some (.v (.int .u64 h), []) => match Nat.ble (nm.size + 1) 9223372036854775807, Nat.ble ((nm ++ (⟨#[45]⟩ : ByteArray)).size + (Dig.textB h).size) 9223372036854775807 with
      | true, true => some (.v (.string (snT nm h)), [])
      | _, _ => none
    | _ => none
  | _ => none
set_option maxHeartbeats 4000000 in
theorem sn_fn (x0 : Int) (nm : ByteArray) (x2 : Int) (x3 : Int) (n : Nat) (m : Nat) (get : Nat → List AV) (x5 : Int) (x6 : Int) (x7 : Bool) (x8 : Bool) (x9 : Bool) (x10 : Int) (x11 : ByteArray) (x12 : ByteArray) (x13 : ByteArray) (x14 : Int) (x15 : Bool) (x16 : Bool) (x17 : Int) (x18 : Int) (x19 : ByteArray) (x20 : Int) (x21 : Int) (x22 : Int) (x23 : Int) (x24 : Int) (x25 : Bool) (x26 : Int) (n2 : Nat) (m2 : Nat) (get2 : Nat → List AV) (x28 : Int) (x29 : ByteArray) (x30 : Int) (x31 : Int) (h : Int) (ht : tmM [.agg [.v (.int .i64 x0), .v (.string nm), .v (.int .i64 x2), .v (.int .i64 x3), .lst 2 n m get, .v (.int .i64 x5), .v (.int .i64 x6), .v (.bool x7), .v (.bool x8), .v (.bool x9), .v (.int .i64 x10), .v (.string x11), .v (.string x12), .v (.string x13), .v (.int .i64 x14), .v (.bool x15), .v (.bool x16), .v (.int .i64 x17), .v (.int .i64 x18), .v (.string x19), .v (.int .i64 x20), .v (.int .i64 x21), .v (.int .i64 x22), .v (.int .i64 x23), .v (.int .i64 x24), .v (.bool x25), .v (.int .u64 x26), .lst 2 n2 m2 get2, .v (.int .i64 x28), .v (.string x29), .v (.int .i64 x30), .v (.int .i64 x31)]] = some (.v (.int .u64 h), [])) (h1 : nm.size + 1 ≤ 9223372036854775807) (h2 : (nm ++ (⟨#[45]⟩ : ByteArray)).size + (Dig.textB h).size ≤ 9223372036854775807) :
    FnV (ctx m0) Try.prog 15 [.agg [.v (.int .i64 x0), .v (.string nm), .v (.int .i64 x2), .v (.int .i64 x3), .lst 2 n m get, .v (.int .i64 x5), .v (.int .i64 x6), .v (.bool x7), .v (.bool x8), .v (.bool x9), .v (.int .i64 x10), .v (.string x11), .v (.string x12), .v (.string x13), .v (.int .i64 x14), .v (.bool x15), .v (.bool x16), .v (.int .i64 x17), .v (.int .i64 x18), .v (.string x19), .v (.int .i64 x20), .v (.int .i64 x21), .v (.int .i64 x22), .v (.int .i64 x23), .v (.int .i64 x24), .v (.bool x25), .v (.int .u64 x26), .lst 2 n2 m2 get2, .v (.int .i64 x28), .v (.string x29), .v (.int .i64 x30), .v (.int .i64 x31)]] (.v (.string (snT nm h))) :=
  FnV.way (n := 200) (os := [.c (.v (.int .u64 h)) [], .c (.v (.string (Dig.textB h))) []]) (by kernel_rfl) (.cons h1 <| .cons (callM (C := ctx m0) (m := tmM) (n := 48) (caps := []) (args := [.agg [.v (.int .i64 x0), .v (.string nm), .v (.int .i64 x2), .v (.int .i64 x3), .lst 2 n m get, .v (.int .i64 x5), .v (.int .i64 x6), .v (.bool x7), .v (.bool x8), .v (.bool x9), .v (.int .i64 x10), .v (.string x11), .v (.string x12), .v (.string x13), .v (.int .i64 x14), .v (.bool x15), .v (.bool x16), .v (.int .i64 x17), .v (.int .i64 x18), .v (.string x19), .v (.int .i64 x20), .v (.int .i64 x21), .v (.int .i64 x22), .v (.int .i64 x23), .v (.int .i64 x24), .v (.bool x25), .v (.int .u64 x26), .lst 2 n2 m2 get2, .v (.int .i64 x28), .v (.string x29), .v (.int .i64 x30), .v (.int .i64 x31)]]) (bs := [.agg [.v (.int .i64 x0), .v (.string nm), .v (.int .i64 x2), .v (.int .i64 x3), .lst 2 n m get, .v (.int .i64 x5), .v (.int .i64 x6), .v (.bool x7), .v (.bool x8), .v (.bool x9), .v (.int .i64 x10), .v (.string x11), .v (.string x12), .v (.string x13), .v (.int .i64 x14), .v (.bool x15), .v (.bool x16), .v (.int .i64 x17), .v (.int .i64 x18), .v (.string x19), .v (.int .i64 x20), .v (.int .i64 x21), .v (.int .i64 x22), .v (.int .i64 x23), .v (.int .i64 x24), .v (.bool x25), .v (.int .u64 x26), .lst 2 n2 m2 get2, .v (.int .i64 x28), .v (.string x29), .v (.int .i64 x30), .v (.int .i64 x31)]]) (bs' := [.agg [.v (.int .i64 x0), .v (.string nm), .v (.int .i64 x2), .v (.int .i64 x3), .lst 2 n m get, .v (.int .i64 x5), .v (.int .i64 x6), .v (.bool x7), .v (.bool x8), .v (.bool x9), .v (.int .i64 x10), .v (.string x11), .v (.string x12), .v (.string x13), .v (.int .i64 x14), .v (.bool x15), .v (.bool x16), .v (.int .i64 x17), .v (.int .i64 x18), .v (.string x19), .v (.int .i64 x20), .v (.int .i64 x21), .v (.int .i64 x22), .v (.int .i64 x23), .v (.int .i64 x24), .v (.bool x25), .v (.int .u64 x26), .lst 2 n2 m2 get2, .v (.int .i64 x28), .v (.string x29), .v (.int .i64 x30), .v (.int .i64 x31)]]) (H := [.var [.v (.int .i64 x0), .v (.string nm), .v (.int .i64 x2), .v (.int .i64 x3), .lst 2 n m get, .v (.int .i64 x5), .v (.int .i64 x6), .v (.bool x7), .v (.bool x8), .v (.bool x9), .v (.int .i64 x10), .v (.string x11), .v (.string x12), .v (.string x13), .v (.int .i64 x14), .v (.bool x15), .v (.bool x16), .v (.int .i64 x17), .v (.int .i64 x18), .v (.string x19), .v (.int .i64 x20), .v (.int .i64 x21), .v (.int .i64 x22), .v (.int .i64 x23), .v (.int .i64 x24), .v (.bool x25), .v (.int .u64 x26), .lst 2 n2 m2 get2, .v (.int .i64 x28), .v (.string x29), .v (.int .i64 x30), .v (.int .i64 x31)]]) (y := .v (.int .u64 h)) (by kernel_rfl) (by kernel_rfl) rfl ht (by kernel_rfl)) <| .cons (callM (C := ctx m0) (m := txM) (n := 47) (caps := []) (args := [.v (.int .u64 h)]) (bs := [.v (.int .u64 h)]) (bs' := [.v (.int .u64 h)]) (H := [.var [.v (.int .i64 x0), .v (.string nm), .v (.int .i64 x2), .v (.int .i64 x3), .lst 2 n m get, .v (.int .i64 x5), .v (.int .i64 x6), .v (.bool x7), .v (.bool x8), .v (.bool x9), .v (.int .i64 x10), .v (.string x11), .v (.string x12), .v (.string x13), .v (.int .i64 x14), .v (.bool x15), .v (.bool x16), .v (.int .i64 x17), .v (.int .i64 x18), .v (.string x19), .v (.int .i64 x20), .v (.int .i64 x21), .v (.int .i64 x22), .v (.int .i64 x23), .v (.int .i64 x24), .v (.bool x25), .v (.int .u64 x26), .lst 2 n2 m2 get2, .v (.int .i64 x28), .v (.string x29), .v (.int .i64 x30), .v (.int .i64 x31)]]) (y := .v (.string (Dig.textB h))) (by kernel_rfl) (by kernel_rfl) rfl rfl (by kernel_rfl)) <| .cons h2 <| .nil)
theorem sn_models : Models Try.prog G0 15 snM := by
  intro S w bs vs r Hr hvs himm hg e
  refine wholeV_models hM ok0 hG0 _ S w bs vs r Hr hvs himm hg ?_
  unfold snM at e
  split at e
  · split at e
    · rename_i h he
      split at e
      · rename_i q1 q2
        simp only [Option.some.injEq, Prod.mk.injEq] at e
        obtain ⟨rfl, rfl⟩ := e
        exact (sn_fn _ _ _ _ _ _ _ _ _ _ _ _ _ _ _ _ _ _ _ _ _ _ _ _ _ _ _ _ _ _ _ _ _ _ _ _ h he (Nat.le_of_ble_eq_true q1) (Nat.le_of_ble_eq_true q2)).eq
      · cases e
    · cases e
  · cases e
/-- The law's deployment. -/
noncomputable def webM : List AV → Option (AV × List Blk)
  | [.v (.string t)] => match law26_web t with
    | some o => some (.agg (gObject [] o), [])
    | none => none
  | _ => none
theorem web_models : Models Try.prog G0 29 webM := by
  intro S w bs vs r Hr hvs himm hg e
  refine wholeV_models hM ok_law26_web hG0 _ S w bs vs r Hr hvs himm hg ?_
  unfold webM at e
  split at e
  · rename_i t
    split at e
    · rename_i o ho
      simp only [Option.some.injEq, Prod.mk.injEq] at e
      obtain ⟨rfl, rfl⟩ := e
      exact (law26_web_fn t _ ho).eq
    · cases e
  · cases e
/-- The table with it. -/
noncomputable def mS : Nat → Option (List AV → Option (AV × List Blk)) := fun n => match Nat.beq n 15 with
  | true => some snM
  | false => match Nat.beq n 29 with
    | true => some webM
    | false => m0 n
theorem okS : CtxOk Try.prog (ctx mS) G0 := by
  refine ⟨⟨ok0.td.one, ok0.td.agg, ok0.td.sl, ok0.td.conc⟩, fun n m hm => ?_, ok0.eqs, ok0.fn⟩
  have hm' : mS n = some m := hm
  unfold mS at hm'
  split at hm'
  · rename_i hb
    obtain rfl := Nat.eq_of_beq_eq_true hb
    obtain rfl := Option.some.inj hm'
    exact ⟨sn_models, _, Try.func15, rfl, by decide⟩
  · split at hm'
    · rename_i hb
      obtain rfl := Nat.eq_of_beq_eq_true hb
      obtain rfl := Option.some.inj hm'
      exact ⟨web_models, _, Try.func29, rfl, by decide⟩
    · exact ok0.m n m hm'
/-- A closed function that answers true: it is run. -/
noncomputable def runB (C : Ctx) (n f : Nat) : Bool := match evFn C (evCode C Try.prog n) f [] [] with
  | some (.v (.bool true), _) => true
  | _ => false
theorem run_true {C : Ctx} {n f : Nat} (h : runB C n f = true) : FnV C Try.prog f [] (.v (.bool true)) := by
  unfold runB at h
  split at h
  · rename_i H he
    exact FnV.of ⟨n, he⟩ rfl
  · cases h
noncomputable def C_law26_works : Ctx := ctx mS
theorem ok_law26_works : CtxOk Try.prog C_law26_works G0 := okS
def law26_works : Option Bool := some true
theorem works_run : runB (ctx mS) 2000 23 = true := by kernel_rfl
theorem law26_works_fn : Aq law26_works (fun ans => FnV C_law26_works Try.prog 23 [] (.v (.bool ans))) := Aq.ret (run_true works_run)
end Go.Proofs.Ytnoaglgjhgnnfaa.Ag
