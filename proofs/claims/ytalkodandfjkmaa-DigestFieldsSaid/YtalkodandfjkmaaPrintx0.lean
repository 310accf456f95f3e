/- The functions below as plain Lean functions, each with the proof that the calls come to it; written by a program over the kit's print. -/
import Derived.Test.YtalkodandfjkmaaProg
import Derived.Below
import Derived.Deep.Draws
import Derived.Deep.AppendLies
import Derived.Maps.AppendAt
import Derived.OwnWalk
import Derived.Laws.BytesArg
import Derived.Laws.MakeOwn
import Derived.Laws.OwnMore
import Derived.Deep.OwnRows
import Derived.Tactics
import Derived.Lib.ConvBytes
import Derived.Laws.Slices
import Derived.WalkKit
import Derived.KernelRfl
import Derived.RowKit3
import Derived.Deep.LoopGhost
import Derived.Deep.QuietTactic
import Derived.BigQuiet
import Derived.WideLaws
import Derived.Deep.DeepCutAuto
import Derived.Deep.CutBlock
import Derived.Deep.RegionHeld3
import Derived.Laws.Rows
import Derived.Lib.AppendStr
import Derived.ArgAppend
import Derived.Laws.IdiomCopy
import Derived.OrdersHeld
import Derived.Laws.BitsLemmas
import Derived.RowKit
import Derived.Lib.Hide
import Derived.Handy
import Derived.Test.YtalkodandfjkmaaRd
import Derived.Test.YtalkodandfjkmaaEv
import Derived.Test.YtalkodandfjkmaaMid
import Derived.Test.YtalkodandfjkmaaDigP
import Derived.Test.YtalkodandfjkmaaDig
import Derived.Test.YtalkodandfjkmaaDigL
import Derived.Test.YtalkodandfjkmaaDigT
import Derived.Test.YtalkodandfjkmaaShelf
import Derived.Test.YtalkodandfjkmaaWWords
import Derived.Test.YtalkodandfjkmaaWLast
import Derived.Test.YtalkodandfjkmaaWTab
import Derived.Test.YtalkodandfjkmaaWFour
import Derived.Test.YtalkodandfjkmaaWQPut
import Derived.Test.YtalkodandfjkmaaWApart
import Derived.Test.YtalkodandfjkmaaWArr
import Derived.Test.YtalkodandfjkmaaWZeros
import Derived.Test.YtalkodandfjkmaaWFoot
import Derived.Test.YtalkodandfjkmaaWKept
import Derived.Test.YtalkodandfjkmaaWShare
import Derived.Test.YtalkodandfjkmaaWN
import Derived.Test.YtalkodandfjkmaaWFootNe
import Derived.Test.YtalkodandfjkmaaWAt
import Derived.Test.YtalkodandfjkmaaWEqStruct
import Derived.Test.YtalkodandfjkmaaWRepsOne
import Derived.Test.YtalkodandfjkmaaWInv
import Derived.Test.YtalkodandfjkmaaWInvWords
import Derived.Test.YtalkodandfjkmaaWGuard
import Derived.Test.YtalkodandfjkmaaWNEv
import Derived.Test.YtalkodandfjkmaaWMore
namespace Go.Proofs.Ytalkodandfjkmaa.Print
open Go.RowKit Go.Proofs.YtalkodandfjkmaaW.PrintWords Go.Proofs.YtalkodandfjkmaaW.PrintLast Go.Proofs.YtalkodandfjkmaaW.PrintMore
attribute [local go_sem] max2_int min2_int max_two min_two max_three min_three max_four min_four   -- for this text's walks alone
set_option linter.unusedVariables false
set_option linter.unusedSimpArgs false



def errW : Option Int → Value
  | none => .nilIface
  | some c => .iface 57 (.int .i64 c)
theorem errW_none : errW none = .nilIface := rfl
theorem errW_some (c : Int) : errW (some c) = .iface 57 (.int .i64 c) := rfl

-- the values' own types
/-! #### struct type 51 -/
structure S51 where
  f0 : ByteArray
  f1 : ByteArray
def z51 : S51 := ⟨(⟨#[]⟩ : ByteArray), (⟨#[]⟩ : ByteArray)⟩
def k51 : Kd S51 := Kd.iso (Kd.pair Kd.string Kd.string) (fun x : S51 => (x.f0, x.f1))
theorem k51_open {w : World} {x : S51} {cs : List Value} (h : k51.K w x cs) : cs = [.string x.f0, .string x.f1] := by
  obtain ⟨_, _, rfl, rfl, rfl⟩ := h
  exact rfl
theorem k51_openM {w : World} {base : Nat} {ok : Nat → Prop} {x : S51} {cs : List Value} (h : k51.M w base ok x cs) : cs = [.string x.f0, .string x.f1] := by
  obtain ⟨_, _, rfl, rfl, rfl⟩ := h
  exact rfl
theorem k51_mk (w : World) (x : S51)  : k51.K w x [.string x.f0, .string x.f1] := ⟨[.string x.f0], [.string x.f1], rfl, rfl, rfl⟩
theorem k51_mkM (w : World) (base : Nat) (ok : Nat → Prop) (x : S51)  : k51.M w base ok x [.string x.f0, .string x.f1] := ⟨[.string x.f0], [.string x.f1], rfl, rfl, rfl⟩
def rd_T51 (xs : List S51) (i : Int) : S51 := xs.getD i.toNat z51
theorem at_T51 {w : World} {A : Option Addr} {n : Nat} {xs : List S51} (h : Kd.C k51 w A n xs) (i : Int) (h0 : 0 ≤ i) (h1 : i < n) : ∃ ad , A = some ad ∧ w.cell? (ad.add (i.toNat * 2)) = some (.string (rd_T51 xs i).f0) ∧ w.cell? ⟨(ad.add (i.toNat * 2)).block, (ad.add (i.toNat * 2)).off + 1, none⟩ = some (.string (rd_T51 xs i).f1) := by
  obtain ⟨ad, c, e, _, hK, hc0⟩ := Kd.C_get h z51 i h0 h1
  have hc : ∀ j u, c[j]? = some u → w.cell? (ad.add (i.toNat * 2 + j)) = some u := hc0
  obtain rfl := k51_open hK
  exact ⟨ad, e, hc 0 _ rfl, by rw [← add_field _ _ 1 (by omega)]; exact hc 1 _ rfl⟩

def rd_L3 (xs : List (List S51)) (i : Int) : (List S51) := xs.getD i.toNat ([] : List S51)
theorem at_L3 {w : World} {A : Option Addr} {n : Nat} {xs : List (List S51)} (h : Kd.C (Kd.slice 51 k51) w A n xs) (i : Int) (h0 : 0 ≤ i) (h1 : i < n) : ∃ ad A0 c0, A = some ad ∧ w.cell? (ad.add i.toNat) = some (.slice A0 (rd_L3 xs i).length c0) ∧ (rd_L3 xs i).length ≤ c0 ∧ k51.C w A0 (rd_L3 xs i).length (rd_L3 xs i) := by
  obtain ⟨ad, c, e, _, hK, hc0⟩ := Kd.C_get h ([] : List S51) i h0 h1
  have hc : ∀ j u, c[j]? = some u → w.cell? (ad.add (i.toNat * 1 + j)) = some u := hc0
  obtain ⟨A0, c0, rfl, l0, g0⟩ := hK
  exact ⟨ad, A0, c0, e, by have hq := hc 0 _ rfl; rwa [Nat.mul_one, Nat.add_zero] at hq, l0, g0⟩

/-! #### struct type 30 -/
structure S30 where
  f0 : Int
  f1 : Int
def z30 : S30 := ⟨(0 : Int), (0 : Int)⟩
def k30 : Kd S30 := Kd.iso (Kd.pair (Kd.int .i64) (Kd.int .i64)) (fun x : S30 => (x.f0, x.f1))
theorem k30_open {w : World} {x : S30} {cs : List Value} (h : k30.K w x cs) : cs = [.int .i64 x.f0, .int .i64 x.f1] := by
  obtain ⟨_, _, rfl, rfl, rfl⟩ := h
  exact rfl
theorem k30_openM {w : World} {base : Nat} {ok : Nat → Prop} {x : S30} {cs : List Value} (h : k30.M w base ok x cs) : cs = [.int .i64 x.f0, .int .i64 x.f1] := by
  obtain ⟨_, _, rfl, rfl, rfl⟩ := h
  exact rfl
theorem k30_mk (w : World) (x : S30)  : k30.K w x [.int .i64 x.f0, .int .i64 x.f1] := ⟨[.int .i64 x.f0], [.int .i64 x.f1], rfl, rfl, rfl⟩
theorem k30_mkM (w : World) (base : Nat) (ok : Nat → Prop) (x : S30)  : k30.M w base ok x [.int .i64 x.f0, .int .i64 x.f1] := ⟨[.int .i64 x.f0], [.int .i64 x.f1], rfl, rfl, rfl⟩
def rd_T30 (xs : List S30) (i : Int) : S30 := xs.getD i.toNat z30
theorem at_T30 {w : World} {A : Option Addr} {n : Nat} {xs : List S30} (h : Kd.C k30 w A n xs) (i : Int) (h0 : 0 ≤ i) (h1 : i < n) : ∃ ad , A = some ad ∧ w.cell? (ad.add (i.toNat * 2)) = some (.int .i64 (rd_T30 xs i).f0) ∧ w.cell? ⟨(ad.add (i.toNat * 2)).block, (ad.add (i.toNat * 2)).off + 1, none⟩ = some (.int .i64 (rd_T30 xs i).f1) := by
  obtain ⟨ad, c, e, _, hK, hc0⟩ := Kd.C_get h z30 i h0 h1
  have hc : ∀ j u, c[j]? = some u → w.cell? (ad.add (i.toNat * 2 + j)) = some u := hc0
  obtain rfl := k30_open hK
  exact ⟨ad, e, hc 0 _ rfl, by rw [← add_field _ _ 1 (by omega)]; exact hc 1 _ rfl⟩

/-! #### struct type 32 -/
structure S32 where
  f0 : Int
  f1 : ByteArray
  f2 : Int
  f3 : Int
  f4 : (List S51)
  f5 : S30
  f6 : Bool
  f7 : Bool
  f8 : Bool
  f9 : Int
  f10 : ByteArray
  f11 : ByteArray
  f12 : ByteArray
  f13 : Int
  f14 : Bool
  f15 : Bool
  f16 : S30
  f17 : ByteArray
  f18 : Int
  f19 : Int
  f20 : Int
  f21 : Int
  f22 : Int
  f23 : Bool
  f24 : Int
  f25 : (List S51)
  f26 : Int
  f27 : ByteArray
  f28 : Int
  f29 : Int
def z32 : S32 := ⟨(0 : Int), (⟨#[]⟩ : ByteArray), (0 : Int), (0 : Int), ([] : List S51), z30, false, false, false, (0 : Int), (⟨#[]⟩ : ByteArray), (⟨#[]⟩ : ByteArray), (⟨#[]⟩ : ByteArray), (0 : Int), false, false, z30, (⟨#[]⟩ : ByteArray), (0 : Int), (0 : Int), (0 : Int), (0 : Int), (0 : Int), false, (0 : Int), ([] : List S51), (0 : Int), (⟨#[]⟩ : ByteArray), (0 : Int), (0 : Int)⟩
def k32 : Kd S32 := Kd.iso (Kd.pair (Kd.int .i64) (Kd.pair Kd.string (Kd.pair (Kd.int .i64) (Kd.pair (Kd.int .i64) (Kd.pair (Kd.slice 51 k51) (Kd.pair k30 (Kd.pair Kd.bool (Kd.pair Kd.bool (Kd.pair Kd.bool (Kd.pair (Kd.int .i64) (Kd.pair Kd.string (Kd.pair Kd.string (Kd.pair Kd.string (Kd.pair (Kd.int .i64) (Kd.pair Kd.bool (Kd.pair Kd.bool (Kd.pair k30 (Kd.pair Kd.string (Kd.pair (Kd.int .i64) (Kd.pair (Kd.int .i64) (Kd.pair (Kd.int .i64) (Kd.pair (Kd.int .i64) (Kd.pair (Kd.int .i64) (Kd.pair Kd.bool (Kd.pair (Kd.int .u64) (Kd.pair (Kd.slice 51 k51) (Kd.pair (Kd.int .i64) (Kd.pair Kd.string (Kd.pair (Kd.int .i64) (Kd.int .i64)))))))))))))))))))))))))))))) (fun x : S32 => (x.f0, x.f1, x.f2, x.f3, x.f4, x.f5, x.f6, x.f7, x.f8, x.f9, x.f10, x.f11, x.f12, x.f13, x.f14, x.f15, x.f16, x.f17, x.f18, x.f19, x.f20, x.f21, x.f22, x.f23, x.f24, x.f25, x.f26, x.f27, x.f28, x.f29))
theorem k32_open {w : World} {x : S32} {cs : List Value} (h : k32.K w x cs) : ∃ A4 c4 A27 c27, cs = [.int .i64 x.f0, .string x.f1, .int .i64 x.f2, .int .i64 x.f3, .slice A4 x.f4.length c4, .int .i64 x.f5.f0, .int .i64 x.f5.f1, .bool x.f6, .bool x.f7, .bool x.f8, .int .i64 x.f9, .string x.f10, .string x.f11, .string x.f12, .int .i64 x.f13, .bool x.f14, .bool x.f15, .int .i64 x.f16.f0, .int .i64 x.f16.f1, .string x.f17, .int .i64 x.f18, .int .i64 x.f19, .int .i64 x.f20, .int .i64 x.f21, .int .i64 x.f22, .bool x.f23, .int .u64 x.f24, .slice A27 x.f25.length c27, .int .i64 x.f26, .string x.f27, .int .i64 x.f28, .int .i64 x.f29] ∧ x.f4.length ≤ c4 ∧ k51.C w A4 x.f4.length x.f4 ∧ x.f25.length ≤ c27 ∧ k51.C w A27 x.f25.length x.f25 := by
  obtain ⟨_, _, rfl, rfl, ⟨_, _, rfl, rfl, ⟨_, _, rfl, rfl, ⟨_, _, rfl, rfl, ⟨_, _, rfl, ⟨A4, c4, rfl, l4, g4⟩, ⟨_, _, rfl, s5, ⟨_, _, rfl, rfl, ⟨_, _, rfl, rfl, ⟨_, _, rfl, rfl, ⟨_, _, rfl, rfl, ⟨_, _, rfl, rfl, ⟨_, _, rfl, rfl, ⟨_, _, rfl, rfl, ⟨_, _, rfl, rfl, ⟨_, _, rfl, rfl, ⟨_, _, rfl, rfl, ⟨_, _, rfl, s17, ⟨_, _, rfl, rfl, ⟨_, _, rfl, rfl, ⟨_, _, rfl, rfl, ⟨_, _, rfl, rfl, ⟨_, _, rfl, rfl, ⟨_, _, rfl, rfl, ⟨_, _, rfl, rfl, ⟨_, _, rfl, rfl, ⟨_, _, rfl, ⟨A27, c27, rfl, l27, g27⟩, ⟨_, _, rfl, rfl, ⟨_, _, rfl, rfl, ⟨_, _, rfl, rfl, rfl⟩⟩⟩⟩⟩⟩⟩⟩⟩⟩⟩⟩⟩⟩⟩⟩⟩⟩⟩⟩⟩⟩⟩⟩⟩⟩⟩⟩⟩ := h
  obtain rfl := k30_open s5
  obtain rfl := k30_open s17
  exact ⟨A4, c4, A27, c27, rfl, l4, g4, l27, g27⟩
theorem k32_openM {w : World} {base : Nat} {ok : Nat → Prop} {x : S32} {cs : List Value} (h : k32.M w base ok x cs) : ∃ v4 v27, cs = [.int .i64 x.f0, .string x.f1, .int .i64 x.f2, .int .i64 x.f3, v4, .int .i64 x.f5.f0, .int .i64 x.f5.f1, .bool x.f6, .bool x.f7, .bool x.f8, .int .i64 x.f9, .string x.f10, .string x.f11, .string x.f12, .int .i64 x.f13, .bool x.f14, .bool x.f15, .int .i64 x.f16.f0, .int .i64 x.f16.f1, .string x.f17, .int .i64 x.f18, .int .i64 x.f19, .int .i64 x.f20, .int .i64 x.f21, .int .i64 x.f22, .bool x.f23, .int .u64 x.f24, v27, .int .i64 x.f26, .string x.f27, .int .i64 x.f28, .int .i64 x.f29] ∧ k51.R 51 w base ok v4 x.f4 ∧ k51.R 51 w base ok v27 x.f25 := by
  obtain ⟨_, _, rfl, rfl, ⟨_, _, rfl, rfl, ⟨_, _, rfl, rfl, ⟨_, _, rfl, rfl, ⟨_, _, rfl, ⟨v4, rfl, g4⟩, ⟨_, _, rfl, s5, ⟨_, _, rfl, rfl, ⟨_, _, rfl, rfl, ⟨_, _, rfl, rfl, ⟨_, _, rfl, rfl, ⟨_, _, rfl, rfl, ⟨_, _, rfl, rfl, ⟨_, _, rfl, rfl, ⟨_, _, rfl, rfl, ⟨_, _, rfl, rfl, ⟨_, _, rfl, rfl, ⟨_, _, rfl, s17, ⟨_, _, rfl, rfl, ⟨_, _, rfl, rfl, ⟨_, _, rfl, rfl, ⟨_, _, rfl, rfl, ⟨_, _, rfl, rfl, ⟨_, _, rfl, rfl, ⟨_, _, rfl, rfl, ⟨_, _, rfl, rfl, ⟨_, _, rfl, ⟨v27, rfl, g27⟩, ⟨_, _, rfl, rfl, ⟨_, _, rfl, rfl, ⟨_, _, rfl, rfl, rfl⟩⟩⟩⟩⟩⟩⟩⟩⟩⟩⟩⟩⟩⟩⟩⟩⟩⟩⟩⟩⟩⟩⟩⟩⟩⟩⟩⟩⟩ := h
  obtain rfl := k30_openM s5
  obtain rfl := k30_openM s17
  exact ⟨v4, v27, rfl, g4, g27⟩
theorem k32_mk (w : World) (x : S32) {A4 : Option Addr} {c4 : Nat} (l4 : x.f4.length ≤ c4) (g4 : k51.C w A4 x.f4.length x.f4) {A27 : Option Addr} {c27 : Nat} (l27 : x.f25.length ≤ c27) (g27 : k51.C w A27 x.f25.length x.f25) : k32.K w x [.int .i64 x.f0, .string x.f1, .int .i64 x.f2, .int .i64 x.f3, .slice A4 x.f4.length c4, .int .i64 x.f5.f0, .int .i64 x.f5.f1, .bool x.f6, .bool x.f7, .bool x.f8, .int .i64 x.f9, .string x.f10, .string x.f11, .string x.f12, .int .i64 x.f13, .bool x.f14, .bool x.f15, .int .i64 x.f16.f0, .int .i64 x.f16.f1, .string x.f17, .int .i64 x.f18, .int .i64 x.f19, .int .i64 x.f20, .int .i64 x.f21, .int .i64 x.f22, .bool x.f23, .int .u64 x.f24, .slice A27 x.f25.length c27, .int .i64 x.f26, .string x.f27, .int .i64 x.f28, .int .i64 x.f29] := ⟨[.int .i64 x.f0], [.string x.f1, .int .i64 x.f2, .int .i64 x.f3, .slice A4 x.f4.length c4, .int .i64 x.f5.f0, .int .i64 x.f5.f1, .bool x.f6, .bool x.f7, .bool x.f8, .int .i64 x.f9, .string x.f10, .string x.f11, .string x.f12, .int .i64 x.f13, .bool x.f14, .bool x.f15, .int .i64 x.f16.f0, .int .i64 x.f16.f1, .string x.f17, .int .i64 x.f18, .int .i64 x.f19, .int .i64 x.f20, .int .i64 x.f21, .int .i64 x.f22, .bool x.f23, .int .u64 x.f24, .slice A27 x.f25.length c27, .int .i64 x.f26, .string x.f27, .int .i64 x.f28, .int .i64 x.f29], rfl, rfl, ⟨[.string x.f1], [.int .i64 x.f2, .int .i64 x.f3, .slice A4 x.f4.length c4, .int .i64 x.f5.f0, .int .i64 x.f5.f1, .bool x.f6, .bool x.f7, .bool x.f8, .int .i64 x.f9, .string x.f10, .string x.f11, .string x.f12, .int .i64 x.f13, .bool x.f14, .bool x.f15, .int .i64 x.f16.f0, .int .i64 x.f16.f1, .string x.f17, .int .i64 x.f18, .int .i64 x.f19, .int .i64 x.f20, .int .i64 x.f21, .int .i64 x.f22, .bool x.f23, .int .u64 x.f24, .slice A27 x.f25.length c27, .int .i64 x.f26, .string x.f27, .int .i64 x.f28, .int .i64 x.f29], rfl, rfl, ⟨[.int .i64 x.f2], [.int .i64 x.f3, .slice A4 x.f4.length c4, .int .i64 x.f5.f0, .int .i64 x.f5.f1, .bool x.f6, .bool x.f7, .bool x.f8, .int .i64 x.f9, .string x.f10, .string x.f11, .string x.f12, .int .i64 x.f13, .bool x.f14, .bool x.f15, .int .i64 x.f16.f0, .int .i64 x.f16.f1, .string x.f17, .int .i64 x.f18, .int .i64 x.f19, .int .i64 x.f20, .int .i64 x.f21, .int .i64 x.f22, .bool x.f23, .int .u64 x.f24, .slice A27 x.f25.length c27, .int .i64 x.f26, .string x.f27, .int .i64 x.f28, .int .i64 x.f29], rfl, rfl, ⟨[.int .i64 x.f3], [.slice A4 x.f4.length c4, .int .i64 x.f5.f0, .int .i64 x.f5.f1, .bool x.f6, .bool x.f7, .bool x.f8, .int .i64 x.f9, .string x.f10, .string x.f11, .string x.f12, .int .i64 x.f13, .bool x.f14, .bool x.f15, .int .i64 x.f16.f0, .int .i64 x.f16.f1, .string x.f17, .int .i64 x.f18, .int .i64 x.f19, .int .i64 x.f20, .int .i64 x.f21, .int .i64 x.f22, .bool x.f23, .int .u64 x.f24, .slice A27 x.f25.length c27, .int .i64 x.f26, .string x.f27, .int .i64 x.f28, .int .i64 x.f29], rfl, rfl, ⟨[.slice A4 x.f4.length c4], [.int .i64 x.f5.f0, .int .i64 x.f5.f1, .bool x.f6, .bool x.f7, .bool x.f8, .int .i64 x.f9, .string x.f10, .string x.f11, .string x.f12, .int .i64 x.f13, .bool x.f14, .bool x.f15, .int .i64 x.f16.f0, .int .i64 x.f16.f1, .string x.f17, .int .i64 x.f18, .int .i64 x.f19, .int .i64 x.f20, .int .i64 x.f21, .int .i64 x.f22, .bool x.f23, .int .u64 x.f24, .slice A27 x.f25.length c27, .int .i64 x.f26, .string x.f27, .int .i64 x.f28, .int .i64 x.f29], rfl, ⟨A4, c4, rfl, l4, g4⟩, ⟨[.int .i64 x.f5.f0, .int .i64 x.f5.f1], [.bool x.f6, .bool x.f7, .bool x.f8, .int .i64 x.f9, .string x.f10, .string x.f11, .string x.f12, .int .i64 x.f13, .bool x.f14, .bool x.f15, .int .i64 x.f16.f0, .int .i64 x.f16.f1, .string x.f17, .int .i64 x.f18, .int .i64 x.f19, .int .i64 x.f20, .int .i64 x.f21, .int .i64 x.f22, .bool x.f23, .int .u64 x.f24, .slice A27 x.f25.length c27, .int .i64 x.f26, .string x.f27, .int .i64 x.f28, .int .i64 x.f29], rfl, (k30_mk w x.f5 ), ⟨[.bool x.f6], [.bool x.f7, .bool x.f8, .int .i64 x.f9, .string x.f10, .string x.f11, .string x.f12, .int .i64 x.f13, .bool x.f14, .bool x.f15, .int .i64 x.f16.f0, .int .i64 x.f16.f1, .string x.f17, .int .i64 x.f18, .int .i64 x.f19, .int .i64 x.f20, .int .i64 x.f21, .int .i64 x.f22, .bool x.f23, .int .u64 x.f24, .slice A27 x.f25.length c27, .int .i64 x.f26, .string x.f27, .int .i64 x.f28, .int .i64 x.f29], rfl, rfl, ⟨[.bool x.f7], [.bool x.f8, .int .i64 x.f9, .string x.f10, .string x.f11, .string x.f12, .int .i64 x.f13, .bool x.f14, .bool x.f15, .int .i64 x.f16.f0, .int .i64 x.f16.f1, .string x.f17, .int .i64 x.f18, .int .i64 x.f19, .int .i64 x.f20, .int .i64 x.f21, .int .i64 x.f22, .bool x.f23, .int .u64 x.f24, .slice A27 x.f25.length c27, .int .i64 x.f26, .string x.f27, .int .i64 x.f28, .int .i64 x.f29], rfl, rfl, ⟨[.bool x.f8], [.int .i64 x.f9, .string x.f10, .string x.f11, .string x.f12, .int .i64 x.f13, .bool x.f14, .bool x.f15, .int .i64 x.f16.f0, .int .i64 x.f16.f1, .string x.f17, .int .i64 x.f18, .int .i64 x.f19, .int .i64 x.f20, .int .i64 x.f21, .int .i64 x.f22, .bool x.f23, .int .u64 x.f24, .slice A27 x.f25.length c27, .int .i64 x.f26, .string x.f27, .int .i64 x.f28, .int .i64 x.f29], rfl, rfl, ⟨[.int .i64 x.f9], [.string x.f10, .string x.f11, .string x.f12, .int .i64 x.f13, .bool x.f14, .bool x.f15, .int .i64 x.f16.f0, .int .i64 x.f16.f1, .string x.f17, .int .i64 x.f18, .int .i64 x.f19, .int .i64 x.f20, .int .i64 x.f21, .int .i64 x.f22, .bool x.f23, .int .u64 x.f24, .slice A27 x.f25.length c27, .int .i64 x.f26, .string x.f27, .int .i64 x.f28, .int .i64 x.f29], rfl, rfl, ⟨[.string x.f10], [.string x.f11, .string x.f12, .int .i64 x.f13, .bool x.f14, .bool x.f15, .int .i64 x.f16.f0, .int .i64 x.f16.f1, .string x.f17, .int .i64 x.f18, .int .i64 x.f19, .int .i64 x.f20, .int .i64 x.f21, .int .i64 x.f22, .bool x.f23, .int .u64 x.f24, .slice A27 x.f25.length c27, .int .i64 x.f26, .string x.f27, .int .i64 x.f28, .int .i64 x.f29], rfl, rfl, ⟨[.string x.f11], [.string x.f12, .int .i64 x.f13, .bool x.f14, .bool x.f15, .int .i64 x.f16.f0, .int .i64 x.f16.f1, .string x.f17, .int .i64 x.f18, .int .i64 x.f19, .int .i64 x.f20, .int .i64 x.f21, .int .i64 x.f22, .bool x.f23, .int .u64 x.f24, .slice A27 x.f25.length c27, .int .i64 x.f26, .string x.f27, .int .i64 x.f28, .int .i64 x.f29], rfl, rfl, ⟨[.string x.f12], [.int .i64 x.f13, .bool x.f14, .bool x.f15, .int .i64 x.f16.f0, .int .i64 x.f16.f1, .string x.f17, .int .i64 x.f18, .int .i64 x.f19, .int .i64 x.f20, .int .i64 x.f21, .int .i64 x.f22, .bool x.f23, .int .u64 x.f24, .slice A27 x.f25.length c27, .int .i64 x.f26, .string x.f27, .int .i64 x.f28, .int .i64 x.f29], rfl, rfl, ⟨[.int .i64 x.f13], [.bool x.f14, .bool x.f15, .int .i64 x.f16.f0, .int .i64 x.f16.f1, .string x.f17, .int .i64 x.f18, .int .i64 x.f19, .int .i64 x.f20, .int .i64 x.f21, .int .i64 x.f22, .bool x.f23, .int .u64 x.f24, .slice A27 x.f25.length c27, .int .i64 x.f26, .string x.f27, .int .i64 x.f28, .int .i64 x.f29], rfl, rfl, ⟨[.bool x.f14], [.bool x.f15, .int .i64 x.f16.f0, .int .i64 x.f16.f1, .string x.f17, .int .i64 x.f18, .int .i64 x.f19, .int .i64 x.f20, .int .i64 x.f21, .int .i64 x.f22, .bool x.f23, .int .u64 x.f24, .slice A27 x.f25.length c27, .int .i64 x.f26, .string x.f27, .int .i64 x.f28, .int .i64 x.f29], rfl, rfl, ⟨[.bool x.f15], [.int .i64 x.f16.f0, .int .i64 x.f16.f1, .string x.f17, .int .i64 x.f18, .int .i64 x.f19, .int .i64 x.f20, .int .i64 x.f21, .int .i64 x.f22, .bool x.f23, .int .u64 x.f24, .slice A27 x.f25.length c27, .int .i64 x.f26, .string x.f27, .int .i64 x.f28, .int .i64 x.f29], rfl, rfl, ⟨[.int .i64 x.f16.f0, .int .i64 x.f16.f1], [.string x.f17, .int .i64 x.f18, .int .i64 x.f19, .int .i64 x.f20, .int .i64 x.f21, .int .i64 x.f22, .bool x.f23, .int .u64 x.f24, .slice A27 x.f25.length c27, .int .i64 x.f26, .string x.f27, .int .i64 x.f28, .int .i64 x.f29], rfl, (k30_mk w x.f16 ), ⟨[.string x.f17], [.int .i64 x.f18, .int .i64 x.f19, .int .i64 x.f20, .int .i64 x.f21, .int .i64 x.f22, .bool x.f23, .int .u64 x.f24, .slice A27 x.f25.length c27, .int .i64 x.f26, .string x.f27, .int .i64 x.f28, .int .i64 x.f29], rfl, rfl, ⟨[.int .i64 x.f18], [.int .i64 x.f19, .int .i64 x.f20, .int .i64 x.f21, .int .i64 x.f22, .bool x.f23, .int .u64 x.f24, .slice A27 x.f25.length c27, .int .i64 x.f26, .string x.f27, .int .i64 x.f28, .int .i64 x.f29], rfl, rfl, ⟨[.int .i64 x.f19], [.int .i64 x.f20, .int .i64 x.f21, .int .i64 x.f22, .bool x.f23, .int .u64 x.f24, .slice A27 x.f25.length c27, .int .i64 x.f26, .string x.f27, .int .i64 x.f28, .int .i64 x.f29], rfl, rfl, ⟨[.int .i64 x.f20], [.int .i64 x.f21, .int .i64 x.f22, .bool x.f23, .int .u64 x.f24, .slice A27 x.f25.length c27, .int .i64 x.f26, .string x.f27, .int .i64 x.f28, .int .i64 x.f29], rfl, rfl, ⟨[.int .i64 x.f21], [.int .i64 x.f22, .bool x.f23, .int .u64 x.f24, .slice A27 x.f25.length c27, .int .i64 x.f26, .string x.f27, .int .i64 x.f28, .int .i64 x.f29], rfl, rfl, ⟨[.int .i64 x.f22], [.bool x.f23, .int .u64 x.f24, .slice A27 x.f25.length c27, .int .i64 x.f26, .string x.f27, .int .i64 x.f28, .int .i64 x.f29], rfl, rfl, ⟨[.bool x.f23], [.int .u64 x.f24, .slice A27 x.f25.length c27, .int .i64 x.f26, .string x.f27, .int .i64 x.f28, .int .i64 x.f29], rfl, rfl, ⟨[.int .u64 x.f24], [.slice A27 x.f25.length c27, .int .i64 x.f26, .string x.f27, .int .i64 x.f28, .int .i64 x.f29], rfl, rfl, ⟨[.slice A27 x.f25.length c27], [.int .i64 x.f26, .string x.f27, .int .i64 x.f28, .int .i64 x.f29], rfl, ⟨A27, c27, rfl, l27, g27⟩, ⟨[.int .i64 x.f26], [.string x.f27, .int .i64 x.f28, .int .i64 x.f29], rfl, rfl, ⟨[.string x.f27], [.int .i64 x.f28, .int .i64 x.f29], rfl, rfl, ⟨[.int .i64 x.f28], [.int .i64 x.f29], rfl, rfl, rfl⟩⟩⟩⟩⟩⟩⟩⟩⟩⟩⟩⟩⟩⟩⟩⟩⟩⟩⟩⟩⟩⟩⟩⟩⟩⟩⟩⟩⟩
theorem k32_mkM (w : World) (base : Nat) (ok : Nat → Prop) (x : S32) {v4 : Value} (g4 : k51.R 51 w base ok v4 x.f4) {v27 : Value} (g27 : k51.R 51 w base ok v27 x.f25) : k32.M w base ok x [.int .i64 x.f0, .string x.f1, .int .i64 x.f2, .int .i64 x.f3, v4, .int .i64 x.f5.f0, .int .i64 x.f5.f1, .bool x.f6, .bool x.f7, .bool x.f8, .int .i64 x.f9, .string x.f10, .string x.f11, .string x.f12, .int .i64 x.f13, .bool x.f14, .bool x.f15, .int .i64 x.f16.f0, .int .i64 x.f16.f1, .string x.f17, .int .i64 x.f18, .int .i64 x.f19, .int .i64 x.f20, .int .i64 x.f21, .int .i64 x.f22, .bool x.f23, .int .u64 x.f24, v27, .int .i64 x.f26, .string x.f27, .int .i64 x.f28, .int .i64 x.f29] := ⟨[.int .i64 x.f0], [.string x.f1, .int .i64 x.f2, .int .i64 x.f3, v4, .int .i64 x.f5.f0, .int .i64 x.f5.f1, .bool x.f6, .bool x.f7, .bool x.f8, .int .i64 x.f9, .string x.f10, .string x.f11, .string x.f12, .int .i64 x.f13, .bool x.f14, .bool x.f15, .int .i64 x.f16.f0, .int .i64 x.f16.f1, .string x.f17, .int .i64 x.f18, .int .i64 x.f19, .int .i64 x.f20, .int .i64 x.f21, .int .i64 x.f22, .bool x.f23, .int .u64 x.f24, v27, .int .i64 x.f26, .string x.f27, .int .i64 x.f28, .int .i64 x.f29], rfl, rfl, ⟨[.string x.f1], [.int .i64 x.f2, .int .i64 x.f3, v4, .int .i64 x.f5.f0, .int .i64 x.f5.f1, .bool x.f6, .bool x.f7, .bool x.f8, .int .i64 x.f9, .string x.f10, .string x.f11, .string x.f12, .int .i64 x.f13, .bool x.f14, .bool x.f15, .int .i64 x.f16.f0, .int .i64 x.f16.f1, .string x.f17, .int .i64 x.f18, .int .i64 x.f19, .int .i64 x.f20, .int .i64 x.f21, .int .i64 x.f22, .bool x.f23, .int .u64 x.f24, v27, .int .i64 x.f26, .string x.f27, .int .i64 x.f28, .int .i64 x.f29], rfl, rfl, ⟨[.int .i64 x.f2], [.int .i64 x.f3, v4, .int .i64 x.f5.f0, .int .i64 x.f5.f1, .bool x.f6, .bool x.f7, .bool x.f8, .int .i64 x.f9, .string x.f10, .string x.f11, .string x.f12, .int .i64 x.f13, .bool x.f14, .bool x.f15, .int .i64 x.f16.f0, .int .i64 x.f16.f1, .string x.f17, .int .i64 x.f18, .int .i64 x.f19, .int .i64 x.f20, .int .i64 x.f21, .int .i64 x.f22, .bool x.f23, .int .u64 x.f24, v27, .int .i64 x.f26, .string x.f27, .int .i64 x.f28, .int .i64 x.f29], rfl, rfl, ⟨[.int .i64 x.f3], [v4, .int .i64 x.f5.f0, .int .i64 x.f5.f1, .bool x.f6, .bool x.f7, .bool x.f8, .int .i64 x.f9, .string x.f10, .string x.f11, .string x.f12, .int .i64 x.f13, .bool x.f14, .bool x.f15, .int .i64 x.f16.f0, .int .i64 x.f16.f1, .string x.f17, .int .i64 x.f18, .int .i64 x.f19, .int .i64 x.f20, .int .i64 x.f21, .int .i64 x.f22, .bool x.f23, .int .u64 x.f24, v27, .int .i64 x.f26, .string x.f27, .int .i64 x.f28, .int .i64 x.f29], rfl, rfl, ⟨[v4], [.int .i64 x.f5.f0, .int .i64 x.f5.f1, .bool x.f6, .bool x.f7, .bool x.f8, .int .i64 x.f9, .string x.f10, .string x.f11, .string x.f12, .int .i64 x.f13, .bool x.f14, .bool x.f15, .int .i64 x.f16.f0, .int .i64 x.f16.f1, .string x.f17, .int .i64 x.f18, .int .i64 x.f19, .int .i64 x.f20, .int .i64 x.f21, .int .i64 x.f22, .bool x.f23, .int .u64 x.f24, v27, .int .i64 x.f26, .string x.f27, .int .i64 x.f28, .int .i64 x.f29], rfl, ⟨v4, rfl, g4⟩, ⟨[.int .i64 x.f5.f0, .int .i64 x.f5.f1], [.bool x.f6, .bool x.f7, .bool x.f8, .int .i64 x.f9, .string x.f10, .string x.f11, .string x.f12, .int .i64 x.f13, .bool x.f14, .bool x.f15, .int .i64 x.f16.f0, .int .i64 x.f16.f1, .string x.f17, .int .i64 x.f18, .int .i64 x.f19, .int .i64 x.f20, .int .i64 x.f21, .int .i64 x.f22, .bool x.f23, .int .u64 x.f24, v27, .int .i64 x.f26, .string x.f27, .int .i64 x.f28, .int .i64 x.f29], rfl, (k30_mkM w base ok x.f5 ), ⟨[.bool x.f6], [.bool x.f7, .bool x.f8, .int .i64 x.f9, .string x.f10, .string x.f11, .string x.f12, .int .i64 x.f13, .bool x.f14, .bool x.f15, .int .i64 x.f16.f0, .int .i64 x.f16.f1, .string x.f17, .int .i64 x.f18, .int .i64 x.f19, .int .i64 x.f20, .int .i64 x.f21, .int .i64 x.f22, .bool x.f23, .int .u64 x.f24, v27, .int .i64 x.f26, .string x.f27, .int .i64 x.f28, .int .i64 x.f29], rfl, rfl, ⟨[.bool x.f7], [.bool x.f8, .int .i64 x.f9, .string x.f10, .string x.f11, .string x.f12, .int .i64 x.f13, .bool x.f14, .bool x.f15, .int .i64 x.f16.f0, .int .i64 x.f16.f1, .string x.f17, .int .i64 x.f18, .int .i64 x.f19, .int .i64 x.f20, .int .i64 x.f21, .int .i64 x.f22, .bool x.f23, .int .u64 x.f24, v27, .int .i64 x.f26, .string x.f27, .int .i64 x.f28, .int .i64 x.f29], rfl, rfl, ⟨[.bool x.f8], [.int .i64 x.f9, .string x.f10, .string x.f11, .string x.f12, .int .i64 x.f13, .bool x.f14, .bool x.f15, .int .i64 x.f16.f0, .int .i64 x.f16.f1, .string x.f17, .int .i64 x.f18, .int .i64 x.f19, .int .i64 x.f20, .int .i64 x.f21, .int .i64 x.f22, .bool x.f23, .int .u64 x.f24, v27, .int .i64 x.f26, .string x.f27, .int .i64 x.f28, .int .i64 x.f29], rfl, rfl, ⟨[.int .i64 x.f9], [.string x.f10, .string x.f11, .string x.f12, .int .i64 x.f13, .bool x.f14, .bool x.f15, .int .i64 x.f16.f0, .int .i64 x.f16.f1, .string x.f17, .int .i64 x.f18, .int .i64 x.f19, .int .i64 x.f20, .int .i64 x.f21, .int .i64 x.f22, .bool x.f23, .int .u64 x.f24, v27, .int .i64 x.f26, .string x.f27, .int .i64 x.f28, .int .i64 x.f29], rfl, rfl, ⟨[.string x.f10], [.string x.f11, .string x.f12, .int .i64 x.f13, .bool x.f14, .bool x.f15, .int .i64 x.f16.f0, .int .i64 x.f16.f1, .string x.f17, .int .i64 x.f18, .int .i64 x.f19, .int .i64 x.f20, .int .i64 x.f21, .int .i64 x.f22, .bool x.f23, .int .u64 x.f24, v27, .int .i64 x.f26, .string x.f27, .int .i64 x.f28, .int .i64 x.f29], rfl, rfl, ⟨[.string x.f11], [.string x.f12, .int .i64 x.f13, .bool x.f14, .bool x.f15, .int .i64 x.f16.f0, .int .i64 x.f16.f1, .string x.f17, .int .i64 x.f18, .int .i64 x.f19, .int .i64 x.f20, .int .i64 x.f21, .int .i64 x.f22, .bool x.f23, .int .u64 x.f24, v27, .int .i64 x.f26, .string x.f27, .int .i64 x.f28, .int .i64 x.f29], rfl, rfl, ⟨[.string x.f12], [.int .i64 x.f13, .bool x.f14, .bool x.f15, .int .i64 x.f16.f0, .int .i64 x.f16.f1, .string x.f17, .int .i64 x.f18, .int .i64 x.f19, .int .i64 x.f20, .int .i64 x.f21, .int .i64 x.f22, .bool x.f23, .int .u64 x.f24, v27, .int .i64 x.f26, .string x.f27, .int .i64 x.f28, .int .i64 x.f29], rfl, rfl, ⟨[.int .i64 x.f13], [.bool x.f14, .bool x.f15, .int .i64 x.f16.f0, .int .i64 x.f16.f1, .string x.f17, .int .i64 x.f18, .int .i64 x.f19, .int .i64 x.f20, .int .i64 x.f21, .int .i64 x.f22, .bool x.f23, .int .u64 x.f24, v27, .int .i64 x.f26, .string x.f27, .int .i64 x.f28, .int .i64 x.f29], rfl, rfl, ⟨[.bool x.f14], [.bool x.f15, .int .i64 x.f16.f0, .int .i64 x.f16.f1, .string x.f17, .int .i64 x.f18, .int .i64 x.f19, .int .i64 x.f20, .int .i64 x.f21, .int .i64 x.f22, .bool x.f23, .int .u64 x.f24, v27, .int .i64 x.f26, .string x.f27, .int .i64 x.f28, .int .i64 x.f29], rfl, rfl, ⟨[.bool x.f15], [.int .i64 x.f16.f0, .int .i64 x.f16.f1, .string x.f17, .int .i64 x.f18, .int .i64 x.f19, .int .i64 x.f20, .int .i64 x.f21, .int .i64 x.f22, .bool x.f23, .int .u64 x.f24, v27, .int .i64 x.f26, .string x.f27, .int .i64 x.f28, .int .i64 x.f29], rfl, rfl, ⟨[.int .i64 x.f16.f0, .int .i64 x.f16.f1], [.string x.f17, .int .i64 x.f18, .int .i64 x.f19, .int .i64 x.f20, .int .i64 x.f21, .int .i64 x.f22, .bool x.f23, .int .u64 x.f24, v27, .int .i64 x.f26, .string x.f27, .int .i64 x.f28, .int .i64 x.f29], rfl, (k30_mkM w base ok x.f16 ), ⟨[.string x.f17], [.int .i64 x.f18, .int .i64 x.f19, .int .i64 x.f20, .int .i64 x.f21, .int .i64 x.f22, .bool x.f23, .int .u64 x.f24, v27, .int .i64 x.f26, .string x.f27, .int .i64 x.f28, .int .i64 x.f29], rfl, rfl, ⟨[.int .i64 x.f18], [.int .i64 x.f19, .int .i64 x.f20, .int .i64 x.f21, .int .i64 x.f22, .bool x.f23, .int .u64 x.f24, v27, .int .i64 x.f26, .string x.f27, .int .i64 x.f28, .int .i64 x.f29], rfl, rfl, ⟨[.int .i64 x.f19], [.int .i64 x.f20, .int .i64 x.f21, .int .i64 x.f22, .bool x.f23, .int .u64 x.f24, v27, .int .i64 x.f26, .string x.f27, .int .i64 x.f28, .int .i64 x.f29], rfl, rfl, ⟨[.int .i64 x.f20], [.int .i64 x.f21, .int .i64 x.f22, .bool x.f23, .int .u64 x.f24, v27, .int .i64 x.f26, .string x.f27, .int .i64 x.f28, .int .i64 x.f29], rfl, rfl, ⟨[.int .i64 x.f21], [.int .i64 x.f22, .bool x.f23, .int .u64 x.f24, v27, .int .i64 x.f26, .string x.f27, .int .i64 x.f28, .int .i64 x.f29], rfl, rfl, ⟨[.int .i64 x.f22], [.bool x.f23, .int .u64 x.f24, v27, .int .i64 x.f26, .string x.f27, .int .i64 x.f28, .int .i64 x.f29], rfl, rfl, ⟨[.bool x.f23], [.int .u64 x.f24, v27, .int .i64 x.f26, .string x.f27, .int .i64 x.f28, .int .i64 x.f29], rfl, rfl, ⟨[.int .u64 x.f24], [v27, .int .i64 x.f26, .string x.f27, .int .i64 x.f28, .int .i64 x.f29], rfl, rfl, ⟨[v27], [.int .i64 x.f26, .string x.f27, .int .i64 x.f28, .int .i64 x.f29], rfl, ⟨v27, rfl, g27⟩, ⟨[.int .i64 x.f26], [.string x.f27, .int .i64 x.f28, .int .i64 x.f29], rfl, rfl, ⟨[.string x.f27], [.int .i64 x.f28, .int .i64 x.f29], rfl, rfl, ⟨[.int .i64 x.f28], [.int .i64 x.f29], rfl, rfl, rfl⟩⟩⟩⟩⟩⟩⟩⟩⟩⟩⟩⟩⟩⟩⟩⟩⟩⟩⟩⟩⟩⟩⟩⟩⟩⟩⟩⟩⟩
def rd_T32 (xs : List S32) (i : Int) : S32 := xs.getD i.toNat z32
theorem at_T32 {w : World} {A : Option Addr} {n : Nat} {xs : List S32} (h : Kd.C k32 w A n xs) (i : Int) (h0 : 0 ≤ i) (h1 : i < n) : ∃ ad A4 c4 A27 c27, A = some ad ∧ w.cell? (ad.add (i.toNat * 32)) = some (.int .i64 (rd_T32 xs i).f0) ∧ w.cell? ⟨(ad.add (i.toNat * 32)).block, (ad.add (i.toNat * 32)).off + 1, none⟩ = some (.string (rd_T32 xs i).f1) ∧ w.cell? ⟨(ad.add (i.toNat * 32)).block, (ad.add (i.toNat * 32)).off + 2, none⟩ = some (.int .i64 (rd_T32 xs i).f2) ∧ w.cell? ⟨(ad.add (i.toNat * 32)).block, (ad.add (i.toNat * 32)).off + 3, none⟩ = some (.int .i64 (rd_T32 xs i).f3) ∧ w.cell? ⟨(ad.add (i.toNat * 32)).block, (ad.add (i.toNat * 32)).off + 4, none⟩ = some (.slice A4 (rd_T32 xs i).f4.length c4) ∧ w.cell? ⟨(ad.add (i.toNat * 32)).block, (ad.add (i.toNat * 32)).off + 5, none⟩ = some (.int .i64 (rd_T32 xs i).f5.f0) ∧ w.cell? ⟨(ad.add (i.toNat * 32)).block, (ad.add (i.toNat * 32)).off + 6, none⟩ = some (.int .i64 (rd_T32 xs i).f5.f1) ∧ w.cell? ⟨(ad.add (i.toNat * 32)).block, (ad.add (i.toNat * 32)).off + 7, none⟩ = some (.bool (rd_T32 xs i).f6) ∧ w.cell? ⟨(ad.add (i.toNat * 32)).block, (ad.add (i.toNat * 32)).off + 8, none⟩ = some (.bool (rd_T32 xs i).f7) ∧ w.cell? ⟨(ad.add (i.toNat * 32)).block, (ad.add (i.toNat * 32)).off + 9, none⟩ = some (.bool (rd_T32 xs i).f8) ∧ w.cell? ⟨(ad.add (i.toNat * 32)).block, (ad.add (i.toNat * 32)).off + 10, none⟩ = some (.int .i64 (rd_T32 xs i).f9) ∧ w.cell? ⟨(ad.add (i.toNat * 32)).block, (ad.add (i.toNat * 32)).off + 11, none⟩ = some (.string (rd_T32 xs i).f10) ∧ w.cell? ⟨(ad.add (i.toNat * 32)).block, (ad.add (i.toNat * 32)).off + 12, none⟩ = some (.string (rd_T32 xs i).f11) ∧ w.cell? ⟨(ad.add (i.toNat * 32)).block, (ad.add (i.toNat * 32)).off + 13, none⟩ = some (.string (rd_T32 xs i).f12) ∧ w.cell? ⟨(ad.add (i.toNat * 32)).block, (ad.add (i.toNat * 32)).off + 14, none⟩ = some (.int .i64 (rd_T32 xs i).f13) ∧ w.cell? ⟨(ad.add (i.toNat * 32)).block, (ad.add (i.toNat * 32)).off + 15, none⟩ = some (.bool (rd_T32 xs i).f14) ∧ w.cell? ⟨(ad.add (i.toNat * 32)).block, (ad.add (i.toNat * 32)).off + 16, none⟩ = some (.bool (rd_T32 xs i).f15) ∧ w.cell? ⟨(ad.add (i.toNat * 32)).block, (ad.add (i.toNat * 32)).off + 17, none⟩ = some (.int .i64 (rd_T32 xs i).f16.f0) ∧ w.cell? ⟨(ad.add (i.toNat * 32)).block, (ad.add (i.toNat * 32)).off + 18, none⟩ = some (.int .i64 (rd_T32 xs i).f16.f1) ∧ w.cell? ⟨(ad.add (i.toNat * 32)).block, (ad.add (i.toNat * 32)).off + 19, none⟩ = some (.string (rd_T32 xs i).f17) ∧ w.cell? ⟨(ad.add (i.toNat * 32)).block, (ad.add (i.toNat * 32)).off + 20, none⟩ = some (.int .i64 (rd_T32 xs i).f18) ∧ w.cell? ⟨(ad.add (i.toNat * 32)).block, (ad.add (i.toNat * 32)).off + 21, none⟩ = some (.int .i64 (rd_T32 xs i).f19) ∧ w.cell? ⟨(ad.add (i.toNat * 32)).block, (ad.add (i.toNat * 32)).off + 22, none⟩ = some (.int .i64 (rd_T32 xs i).f20) ∧ w.cell? ⟨(ad.add (i.toNat * 32)).block, (ad.add (i.toNat * 32)).off + 23, none⟩ = some (.int .i64 (rd_T32 xs i).f21) ∧ w.cell? ⟨(ad.add (i.toNat * 32)).block, (ad.add (i.toNat * 32)).off + 24, none⟩ = some (.int .i64 (rd_T32 xs i).f22) ∧ w.cell? ⟨(ad.add (i.toNat * 32)).block, (ad.add (i.toNat * 32)).off + 25, none⟩ = some (.bool (rd_T32 xs i).f23) ∧ w.cell? ⟨(ad.add (i.toNat * 32)).block, (ad.add (i.toNat * 32)).off + 26, none⟩ = some (.int .u64 (rd_T32 xs i).f24) ∧ w.cell? ⟨(ad.add (i.toNat * 32)).block, (ad.add (i.toNat * 32)).off + 27, none⟩ = some (.slice A27 (rd_T32 xs i).f25.length c27) ∧ w.cell? ⟨(ad.add (i.toNat * 32)).block, (ad.add (i.toNat * 32)).off + 28, none⟩ = some (.int .i64 (rd_T32 xs i).f26) ∧ w.cell? ⟨(ad.add (i.toNat * 32)).block, (ad.add (i.toNat * 32)).off + 29, none⟩ = some (.string (rd_T32 xs i).f27) ∧ w.cell? ⟨(ad.add (i.toNat * 32)).block, (ad.add (i.toNat * 32)).off + 30, none⟩ = some (.int .i64 (rd_T32 xs i).f28) ∧ w.cell? ⟨(ad.add (i.toNat * 32)).block, (ad.add (i.toNat * 32)).off + 31, none⟩ = some (.int .i64 (rd_T32 xs i).f29) ∧ (rd_T32 xs i).f4.length ≤ c4 ∧ k51.C w A4 (rd_T32 xs i).f4.length (rd_T32 xs i).f4 ∧ (rd_T32 xs i).f25.length ≤ c27 ∧ k51.C w A27 (rd_T32 xs i).f25.length (rd_T32 xs i).f25 := by
  obtain ⟨ad, c, e, _, hK, hc0⟩ := Kd.C_get h z32 i h0 h1
  have hc : ∀ j u, c[j]? = some u → w.cell? (ad.add (i.toNat * 32 + j)) = some u := hc0
  obtain ⟨A4, c4, A27, c27, rfl, l4, g4, l27, g27⟩ := k32_open hK
  exact ⟨ad, A4, c4, A27, c27, e, hc 0 _ rfl, by rw [← add_field _ _ 1 (by omega)]; exact hc 1 _ rfl, by rw [← add_field _ _ 2 (by omega)]; exact hc 2 _ rfl, by rw [← add_field _ _ 3 (by omega)]; exact hc 3 _ rfl, by rw [← add_field _ _ 4 (by omega)]; exact hc 4 _ rfl, by rw [← add_field _ _ 5 (by omega)]; exact hc 5 _ rfl, by rw [← add_field _ _ 6 (by omega)]; exact hc 6 _ rfl, by rw [← add_field _ _ 7 (by omega)]; exact hc 7 _ rfl, by rw [← add_field _ _ 8 (by omega)]; exact hc 8 _ rfl, by rw [← add_field _ _ 9 (by omega)]; exact hc 9 _ rfl, by rw [← add_field _ _ 10 (by omega)]; exact hc 10 _ rfl, by rw [← add_field _ _ 11 (by omega)]; exact hc 11 _ rfl, by rw [← add_field _ _ 12 (by omega)]; exact hc 12 _ rfl, by rw [← add_field _ _ 13 (by omega)]; exact hc 13 _ rfl, by rw [← add_field _ _ 14 (by omega)]; exact hc 14 _ rfl, by rw [← add_field _ _ 15 (by omega)]; exact hc 15 _ rfl, by rw [← add_field _ _ 16 (by omega)]; exact hc 16 _ rfl, by rw [← add_field _ _ 17 (by omega)]; exact hc 17 _ rfl, by rw [← add_field _ _ 18 (by omega)]; exact hc 18 _ rfl, by rw [← add_field _ _ 19 (by omega)]; exact hc 19 _ rfl, by rw [← add_field _ _ 20 (by omega)]; exact hc 20 _ rfl, by rw [← add_field _ _ 21 (by omega)]; exact hc 21 _ rfl, by rw [← add_field _ _ 22 (by omega)]; exact hc 22 _ rfl, by rw [← add_field _ _ 23 (by omega)]; exact hc 23 _ rfl, by rw [← add_field _ _ 24 (by omega)]; exact hc 24 _ rfl, by rw [← add_field _ _ 25 (by omega)]; exact hc 25 _ rfl, by rw [← add_field _ _ 26 (by omega)]; exact hc 26 _ rfl, by rw [← add_field _ _ 27 (by omega)]; exact hc 27 _ rfl, by rw [← add_field _ _ 28 (by omega)]; exact hc 28 _ rfl, by rw [← add_field _ _ 29 (by omega)]; exact hc 29 _ rfl, by rw [← add_field _ _ 30 (by omega)]; exact hc 30 _ rfl, by rw [← add_field _ _ 31 (by omega)]; exact hc 31 _ rfl, l4, g4, l27, g27⟩

end Go.Proofs.Ytalkodandfjkmaa.Print
