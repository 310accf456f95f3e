/- The functions below as plain Lean functions, each with the proof that the calls come to it; written by a program over the kit's print. -/
import Derived.Test.YtalkodandfjkmaaDoorProg
import Derived.Below
import Derived.Deep.Draws
import Derived.Deep.AppendLies
import Derived.Maps.AppendAt
import Derived.OwnWalk
import Derived.Laws.BytesArg
import Derived.Laws.MakeOwn
import Derived.Laws.OwnMore
import Derived.Deep.OwnRows
import Derived.Tactics
import Derived.Lib.ConvBytes
import Derived.Laws.Slices
import Derived.WalkKit
import Derived.KernelRfl
import Derived.RowKit3
import Derived.Deep.LoopGhost
import Derived.Deep.QuietTactic
import Derived.BigQuiet
import Derived.WideLaws
import Derived.Deep.DeepCutAuto
import Derived.Deep.CutBlock
import Derived.Deep.RegionHeld3
import Derived.Laws.Rows
import Derived.Lib.AppendStr
import Derived.ArgAppend
import Derived.Laws.IdiomCopy
import Derived.OrdersHeld
import Derived.Laws.BitsLemmas
import Derived.RowKit
import Derived.Lib.Hide
import Derived.Handy
import Derived.Test.YtalkodandfjkmaaDoorRd
import Derived.Test.YtalkodandfjkmaaDoorEv
import Derived.Test.YtalkodandfjkmaaDoorMid
import Derived.Test.YtalkodandfjkmaaDoorDigP
import Derived.Test.YtalkodandfjkmaaDoorDig
import Derived.Test.YtalkodandfjkmaaDoorDigL
import Derived.Test.YtalkodandfjkmaaDoorDigT
import Derived.Test.YtalkodandfjkmaaDoorShelf
import Derived.Test.YtalkodandfjkmaaDoorErr
import Derived.Test.YtalkodandfjkmaaDoorAs
import Derived.Test.YtalkodandfjkmaaDoorPlain
import Derived.Test.YtalkodandfjkmaaDoorGlob
import Derived.Test.YtalkodandfjkmaaDoorWWords
import Derived.Test.YtalkodandfjkmaaDoorWLast
import Derived.Test.YtalkodandfjkmaaDoorWTab
import Derived.Test.YtalkodandfjkmaaDoorWFour
import Derived.Test.YtalkodandfjkmaaDoorWQPut
import Derived.Test.YtalkodandfjkmaaDoorWApart
import Derived.Test.YtalkodandfjkmaaDoorWArr
import Derived.Test.YtalkodandfjkmaaDoorWZeros
import Derived.Test.YtalkodandfjkmaaDoorWFoot
import Derived.Test.YtalkodandfjkmaaDoorWKept
import Derived.Test.YtalkodandfjkmaaDoorWShare
import Derived.Test.YtalkodandfjkmaaDoorWN
import Derived.Test.YtalkodandfjkmaaDoorWFootNe
import Derived.Test.YtalkodandfjkmaaDoorWAt
import Derived.Test.YtalkodandfjkmaaDoorWEqStruct
import Derived.Test.YtalkodandfjkmaaDoorWRepsOne
import Derived.Test.YtalkodandfjkmaaDoorWInv
import Derived.Test.YtalkodandfjkmaaDoorWInvWords
import Derived.Test.YtalkodandfjkmaaDoorWGuard
import Derived.Test.YtalkodandfjkmaaDoorWNEv
import Derived.Test.YtalkodandfjkmaaDoorWMore
namespace Go.Proofs.YtalkodandfjkmaaDoor.Print
open Go.RowKit Go.Proofs.YtalkodandfjkmaaDoorW.PrintWords Go.Proofs.YtalkodandfjkmaaDoorW.PrintLast Go.Proofs.YtalkodandfjkmaaDoorW.PrintMore
attribute [local go_sem] max2_int min2_int max_two min_two max_three min_three max_four min_four   -- for this text's walks alone
set_option linter.unusedVariables false
set_option linter.unusedSimpArgs false



def errW : Option Int → Value
  | none => .nilIface
  | some c => .iface 46 (.int .i64 c)
theorem errW_none : errW none = .nilIface := rfl
theorem errW_some (c : Int) : errW (some c) = .iface 46 (.int .i64 c) := rfl

theorem info5 : (Tryd.prog.info? 5).map (fun i => (i.zero, i.size, i.bytes)) = some (some (.int .u8 0), 1, 1) := by kernel_rfl
theorem info9 : (Tryd.prog.info? 9).map (fun i => (i.zero, i.size, i.bytes)) = some (some (.string ⟨#[]⟩), 1, 16) := by kernel_rfl
theorem info39 : (Tryd.prog.info? 39).map (fun i => (i.zero, i.size, i.bytes)) = some (some (.agg #[(.string ⟨#[]⟩), (.string ⟨#[]⟩)]), 2, 32) := by kernel_rfl
-- the values' own types
def rd_L5 (xs : List (List Int)) (i : Int) : (List Int) := xs.getD i.toNat ([] : List Int)
theorem at_L5 {w : World} {A : Option Addr} {n : Nat} {xs : List (List Int)} (h : Kd.C (Kd.slice 5 (Kd.int .u8)) w A n xs) (i : Int) (h0 : 0 ≤ i) (h1 : i < n) : ∃ ad A0 c0, A = some ad ∧ w.cell? (ad.add i.toNat) = some (.slice A0 (rd_L5 xs i).length c0) ∧ (rd_L5 xs i).length ≤ c0 ∧ (Kd.int .u8).C w A0 (rd_L5 xs i).length (rd_L5 xs i) := by
  obtain ⟨ad, c, e, _, hK, hc0⟩ := Kd.C_get h ([] : List Int) i h0 h1
  have hc : ∀ j u, c[j]? = some u → w.cell? (ad.add (i.toNat * 1 + j)) = some u := hc0
  obtain ⟨A0, c0, rfl, l0, g0⟩ := hK
  exact ⟨ad, A0, c0, e, by have hq := hc 0 _ rfl; rwa [Nat.mul_one, Nat.add_zero] at hq, l0, g0⟩

/-! #### struct type 39 -/
structure S39 where
  f0 : ByteArray
  f1 : ByteArray
def z39 : S39 := ⟨(⟨#[]⟩ : ByteArray), (⟨#[]⟩ : ByteArray)⟩
def k39 : Kd S39 := Kd.iso (Kd.pair Kd.string Kd.string) (fun x : S39 => (x.f0, x.f1))
theorem k39_open {w : World} {x : S39} {cs : List Value} (h : k39.K w x cs) : cs = [.string x.f0, .string x.f1] := by
  obtain ⟨_, _, rfl, rfl, rfl⟩ := h
  exact rfl
theorem k39_openM {w : World} {base : Nat} {ok : Nat → Prop} {x : S39} {cs : List Value} (h : k39.M w base ok x cs) : cs = [.string x.f0, .string x.f1] := by
  obtain ⟨_, _, rfl, rfl, rfl⟩ := h
  exact rfl
theorem k39_mk (w : World) (x : S39)  : k39.K w x [.string x.f0, .string x.f1] := ⟨[.string x.f0], [.string x.f1], rfl, rfl, rfl⟩
theorem k39_mkM (w : World) (base : Nat) (ok : Nat → Prop) (x : S39)  : k39.M w base ok x [.string x.f0, .string x.f1] := ⟨[.string x.f0], [.string x.f1], rfl, rfl, rfl⟩
def rd_T39 (xs : List S39) (i : Int) : S39 := xs.getD i.toNat z39
theorem at_T39 {w : World} {A : Option Addr} {n : Nat} {xs : List S39} (h : Kd.C k39 w A n xs) (i : Int) (h0 : 0 ≤ i) (h1 : i < n) : ∃ ad , A = some ad ∧ w.cell? (ad.add (i.toNat * 2)) = some (.string (rd_T39 xs i).f0) ∧ w.cell? ⟨(ad.add (i.toNat * 2)).block, (ad.add (i.toNat * 2)).off + 1, none⟩ = some (.string (rd_T39 xs i).f1) := by
  obtain ⟨ad, c, e, _, hK, hc0⟩ := Kd.C_get h z39 i h0 h1
  have hc : ∀ j u, c[j]? = some u → w.cell? (ad.add (i.toNat * 2 + j)) = some u := hc0
  obtain rfl := k39_open hK
  exact ⟨ad, e, hc 0 _ rfl, by rw [← add_field _ _ 1 (by omega)]; exact hc 1 _ rfl⟩

def rd_L7 (xs : List (List S39)) (i : Int) : (List S39) := xs.getD i.toNat ([] : List S39)
theorem at_L7 {w : World} {A : Option Addr} {n : Nat} {xs : List (List S39)} (h : Kd.C (Kd.slice 39 k39) w A n xs) (i : Int) (h0 : 0 ≤ i) (h1 : i < n) : ∃ ad A0 c0, A = some ad ∧ w.cell? (ad.add i.toNat) = some (.slice A0 (rd_L7 xs i).length c0) ∧ (rd_L7 xs i).length ≤ c0 ∧ k39.C w A0 (rd_L7 xs i).length (rd_L7 xs i) := by
  obtain ⟨ad, c, e, _, hK, hc0⟩ := Kd.C_get h ([] : List S39) i h0 h1
  have hc : ∀ j u, c[j]? = some u → w.cell? (ad.add (i.toNat * 1 + j)) = some u := hc0
  obtain ⟨A0, c0, rfl, l0, g0⟩ := hK
  exact ⟨ad, A0, c0, e, by have hq := hc 0 _ rfl; rwa [Nat.mul_one, Nat.add_zero] at hq, l0, g0⟩

/-! #### struct type 37 -/
structure S37 where
  f0 : Int
  f1 : Int
def z37 : S37 := ⟨(0 : Int), (0 : Int)⟩
def k37 : Kd S37 := Kd.iso (Kd.pair (Kd.int .i64) (Kd.int .i64)) (fun x : S37 => (x.f0, x.f1))
theorem k37_open {w : World} {x : S37} {cs : List Value} (h : k37.K w x cs) : cs = [.int .i64 x.f0, .int .i64 x.f1] := by
  obtain ⟨_, _, rfl, rfl, rfl⟩ := h
  exact rfl
theorem k37_openM {w : World} {base : Nat} {ok : Nat → Prop} {x : S37} {cs : List Value} (h : k37.M w base ok x cs) : cs = [.int .i64 x.f0, .int .i64 x.f1] := by
  obtain ⟨_, _, rfl, rfl, rfl⟩ := h
  exact rfl
theorem k37_mk (w : World) (x : S37)  : k37.K w x [.int .i64 x.f0, .int .i64 x.f1] := ⟨[.int .i64 x.f0], [.int .i64 x.f1], rfl, rfl, rfl⟩
theorem k37_mkM (w : World) (base : Nat) (ok : Nat → Prop) (x : S37)  : k37.M w base ok x [.int .i64 x.f0, .int .i64 x.f1] := ⟨[.int .i64 x.f0], [.int .i64 x.f1], rfl, rfl, rfl⟩
def rd_T37 (xs : List S37) (i : Int) : S37 := xs.getD i.toNat z37
theorem at_T37 {w : World} {A : Option Addr} {n : Nat} {xs : List S37} (h : Kd.C k37 w A n xs) (i : Int) (h0 : 0 ≤ i) (h1 : i < n) : ∃ ad , A = some ad ∧ w.cell? (ad.add (i.toNat * 2)) = some (.int .i64 (rd_T37 xs i).f0) ∧ w.cell? ⟨(ad.add (i.toNat * 2)).block, (ad.add (i.toNat * 2)).off + 1, none⟩ = some (.int .i64 (rd_T37 xs i).f1) := by
  obtain ⟨ad, c, e, _, hK, hc0⟩ := Kd.C_get h z37 i h0 h1
  have hc : ∀ j u, c[j]? = some u → w.cell? (ad.add (i.toNat * 2 + j)) = some u := hc0
  obtain rfl := k37_open hK
  exact ⟨ad, e, hc 0 _ rfl, by rw [← add_field _ _ 1 (by omega)]; exact hc 1 _ rfl⟩

/-! #### struct type 42 -/
structure S42 where
  f0 : Int
  f1 : ByteArray
  f2 : Int
  f3 : Int
  f4 : (List S39)
  f5 : S37
  f6 : Bool
  f7 : Bool
  f8 : Bool
  f9 : Int
  f10 : ByteArray
  f11 : ByteArray
  f12 : ByteArray
  f13 : Int
  f14 : Bool
  f15 : Bool
  f16 : S37
  f17 : ByteArray
  f18 : Int
  f19 : Int
  f20 : Int
  f21 : Int
  f22 : Int
  f23 : Bool
  f24 : Int
  f25 : (List S39)
  f26 : Int
  f27 : ByteArray
  f28 : Int
  f29 : Int
def z42 : S42 := ⟨(0 : Int), (⟨#[]⟩ : ByteArray), (0 : Int), (0 : Int), ([] : List S39), z37, false, false, false, (0 : Int), (⟨#[]⟩ : ByteArray), (⟨#[]⟩ : ByteArray), (⟨#[]⟩ : ByteArray), (0 : Int), false, false, z37, (⟨#[]⟩ : ByteArray), (0 : Int), (0 : Int), (0 : Int), (0 : Int), (0 : Int), false, (0 : Int), ([] : List S39), (0 : Int), (⟨#[]⟩ : ByteArray), (0 : Int), (0 : Int)⟩
def k42 : Kd S42 := Kd.iso (Kd.pair (Kd.int .i64) (Kd.pair Kd.string (Kd.pair (Kd.int .i64) (Kd.pair (Kd.int .i64) (Kd.pair (Kd.slice 39 k39) (Kd.pair k37 (Kd.pair Kd.bool (Kd.pair Kd.bool (Kd.pair Kd.bool (Kd.pair (Kd.int .i64) (Kd.pair Kd.string (Kd.pair Kd.string (Kd.pair Kd.string (Kd.pair (Kd.int .i64) (Kd.pair Kd.bool (Kd.pair Kd.bool (Kd.pair k37 (Kd.pair Kd.string (Kd.pair (Kd.int .i64) (Kd.pair (Kd.int .i64) (Kd.pair (Kd.int .i64) (Kd.pair (Kd.int .i64) (Kd.pair (Kd.int .i64) (Kd.pair Kd.bool (Kd.pair (Kd.int .u64) (Kd.pair (Kd.slice 39 k39) (Kd.pair (Kd.int .i64) (Kd.pair Kd.string (Kd.pair (Kd.int .i64) (Kd.int .i64)))))))))))))))))))))))))))))) (fun x : S42 => (x.f0, x.f1, x.f2, x.f3, x.f4, x.f5, x.f6, x.f7, x.f8, x.f9, x.f10, x.f11, x.f12, x.f13, x.f14, x.f15, x.f16, x.f17, x.f18, x.f19, x.f20, x.f21, x.f22, x.f23, x.f24, x.f25, x.f26, x.f27, x.f28, x.f29))
theorem k42_open {w : World} {x : S42} {cs : List Value} (h : k42.K w x cs) : ∃ A4 c4 A27 c27, cs = [.int .i64 x.f0, .string x.f1, .int .i64 x.f2, .int .i64 x.f3, .slice A4 x.f4.length c4, .int .i64 x.f5.f0, .int .i64 x.f5.f1, .bool x.f6, .bool x.f7, .bool x.f8, .int .i64 x.f9, .string x.f10, .string x.f11, .string x.f12, .int .i64 x.f13, .bool x.f14, .bool x.f15, .int .i64 x.f16.f0, .int .i64 x.f16.f1, .string x.f17, .int .i64 x.f18, .int .i64 x.f19, .int .i64 x.f20, .int .i64 x.f21, .int .i64 x.f22, .bool x.f23, .int .u64 x.f24, .slice A27 x.f25.length c27, .int .i64 x.f26, .string x.f27, .int .i64 x.f28, .int .i64 x.f29] ∧ x.f4.length ≤ c4 ∧ k39.C w A4 x.f4.length x.f4 ∧ x.f25.length ≤ c27 ∧ k39.C w A27 x.f25.length x.f25 := by
  obtain ⟨_, _, rfl, rfl, ⟨_, _, rfl, rfl, ⟨_, _, rfl, rfl, ⟨_, _, rfl, rfl, ⟨_, _, rfl, ⟨A4, c4, rfl, l4, g4⟩, ⟨_, _, rfl, s5, ⟨_, _, rfl, rfl, ⟨_, _, rfl, rfl, ⟨_, _, rfl, rfl, ⟨_, _, rfl, rfl, ⟨_, _, rfl, rfl, ⟨_, _, rfl, rfl, ⟨_, _, rfl, rfl, ⟨_, _, rfl, rfl, ⟨_, _, rfl, rfl, ⟨_, _, rfl, rfl, ⟨_, _, rfl, s17, ⟨_, _, rfl, rfl, ⟨_, _, rfl, rfl, ⟨_, _, rfl, rfl, ⟨_, _, rfl, rfl, ⟨_, _, rfl, rfl, ⟨_, _, rfl, rfl, ⟨_, _, rfl, rfl, ⟨_, _, rfl, rfl, ⟨_, _, rfl, ⟨A27, c27, rfl, l27, g27⟩, ⟨_, _, rfl, rfl, ⟨_, _, rfl, rfl, ⟨_, _, rfl, rfl, rfl⟩⟩⟩⟩⟩⟩⟩⟩⟩⟩⟩⟩⟩⟩⟩⟩⟩⟩⟩⟩⟩⟩⟩⟩⟩⟩⟩⟩⟩ := h
  obtain rfl := k37_open s5
  obtain rfl := k37_open s17
  exact ⟨A4, c4, A27, c27, rfl, l4, g4, l27, g27⟩
theorem k42_openM {w : World} {base : Nat} {ok : Nat → Prop} {x : S42} {cs : List Value} (h : k42.M w base ok x cs) : ∃ v4 v27, cs = [.int .i64 x.f0, .string x.f1, .int .i64 x.f2, .int .i64 x.f3, v4, .int .i64 x.f5.f0, .int .i64 x.f5.f1, .bool x.f6, .bool x.f7, .bool x.f8, .int .i64 x.f9, .string x.f10, .string x.f11, .string x.f12, .int .i64 x.f13, .bool x.f14, .bool x.f15, .int .i64 x.f16.f0, .int .i64 x.f16.f1, .string x.f17, .int .i64 x.f18, .int .i64 x.f19, .int .i64 x.f20, .int .i64 x.f21, .int .i64 x.f22, .bool x.f23, .int .u64 x.f24, v27, .int .i64 x.f26, .string x.f27, .int .i64 x.f28, .int .i64 x.f29] ∧ k39.R 39 w base ok v4 x.f4 ∧ k39.R 39 w base ok v27 x.f25 := by
  obtain ⟨_, _, rfl, rfl, ⟨_, _, rfl, rfl, ⟨_, _, rfl, rfl, ⟨_, _, rfl, rfl, ⟨_, _, rfl, ⟨v4, rfl, g4⟩, ⟨_, _, rfl, s5, ⟨_, _, rfl, rfl, ⟨_, _, rfl, rfl, ⟨_, _, rfl, rfl, ⟨_, _, rfl, rfl, ⟨_, _, rfl, rfl, ⟨_, _, rfl, rfl, ⟨_, _, rfl, rfl, ⟨_, _, rfl, rfl, ⟨_, _, rfl, rfl, ⟨_, _, rfl, rfl, ⟨_, _, rfl, s17, ⟨_, _, rfl, rfl, ⟨_, _, rfl, rfl, ⟨_, _, rfl, rfl, ⟨_, _, rfl, rfl, ⟨_, _, rfl, rfl, ⟨_, _, rfl, rfl, ⟨_, _, rfl, rfl, ⟨_, _, rfl, rfl, ⟨_, _, rfl, ⟨v27, rfl, g27⟩, ⟨_, _, rfl, rfl, ⟨_, _, rfl, rfl, ⟨_, _, rfl, rfl, rfl⟩⟩⟩⟩⟩⟩⟩⟩⟩⟩⟩⟩⟩⟩⟩⟩⟩⟩⟩⟩⟩⟩⟩⟩⟩⟩⟩⟩⟩ := h
  obtain rfl := k37_openM s5
  obtain rfl := k37_openM s17
  exact ⟨v4, v27, rfl, g4, g27⟩
theorem k42_mk (w : World) (x : S42) {A4 : Option Addr} {c4 : Nat} (l4 : x.f4.length ≤ c4) (g4 : k39.C w A4 x.f4.length x.f4) {A27 : Option Addr} {c27 : Nat} (l27 : x.f25.length ≤ c27) (g27 : k39.C w A27 x.f25.length x.f25) : k42.K w x [.int .i64 x.f0, .string x.f1, .int .i64 x.f2, .int .i64 x.f3, .slice A4 x.f4.length c4, .int .i64 x.f5.f0, .int .i64 x.f5.f1, .bool x.f6, .bool x.f7, .bool x.f8, .int .i64 x.f9, .string x.f10, .string x.f11, .string x.f12, .int .i64 x.f13, .bool x.f14, .bool x.f15, .int .i64 x.f16.f0, .int .i64 x.f16.f1, .string x.f17, .int .i64 x.f18, .int .i64 x.f19, .int .i64 x.f20, .int .i64 x.f21, .int .i64 x.f22, .bool x.f23, .int .u64 x.f24, .slice A27 x.f25.length c27, .int .i64 x.f26, .string x.f27, .int .i64 x.f28, .int .i64 x.f29] := ⟨[.int .i64 x.f0], [.string x.f1, .int .i64 x.f2, .int .i64 x.f3, .slice A4 x.f4.length c4, .int .i64 x.f5.f0, .int .i64 x.f5.f1, .bool x.f6, .bool x.f7, .bool x.f8, .int .i64 x.f9, .string x.f10, .string x.f11, .string x.f12, .int .i64 x.f13, .bool x.f14, .bool x.f15, .int .i64 x.f16.f0, .int .i64 x.f16.f1, .string x.f17, .int .i64 x.f18, .int .i64 x.f19, .int .i64 x.f20, .int .i64 x.f21, .int .i64 x.f22, .bool x.f23, .int .u64 x.f24, .slice A27 x.f25.length c27, .int .i64 x.f26, .string x.f27, .int .i64 x.f28, .int .i64 x.f29], rfl, rfl, ⟨[.string x.f1], [.int .i64 x.f2, .int .i64 x.f3, .slice A4 x.f4.length c4, .int .i64 x.f5.f0, .int .i64 x.f5.f1, .bool x.f6, .bool x.f7, .bool x.f8, .int .i64 x.f9, .string x.f10, .string x.f11, .string x.f12, .int .i64 x.f13, .bool x.f14, .bool x.f15, .int .i64 x.f16.f0, .int .i64 x.f16.f1, .string x.f17, .int .i64 x.f18, .int .i64 x.f19, .int .i64 x.f20, .int .i64 x.f21, .int .i64 x.f22, .bool x.f23, .int .u64 x.f24, .slice A27 x.f25.length c27, .int .i64 x.f26, .string x.f27, .int .i64 x.f28, .int .i64 x.f29], rfl, rfl, ⟨[.int .i64 x.f2], [.int .i64 x.f3, .slice A4 x.f4.length c4, .int .i64 x.f5.f0, .int .i64 x.f5.f1, .bool x.f6, .bool x.f7, .bool x.f8, .int .i64 x.f9, .string x.f10, .string x.f11, .string x.f12, .int .i64 x.f13, .bool x.f14, .bool x.f15, .int .i64 x.f16.f0, .int .i64 x.f16.f1, .string x.f17, .int .i64 x.f18, .int .i64 x.f19, .int .i64 x.f20, .int .i64 x.f21, .int .i64 x.f22, .bool x.f23, .int .u64 x.f24, .slice A27 x.f25.length c27, .int .i64 x.f26, .string x.f27, .int .i64 x.f28, .int .i64 x.f29], rfl, rfl, ⟨[.int .i64 x.f3], [.slice A4 x.f4.length c4, .int .i64 x.f5.f0, .int .i64 x.f5.f1, .bool x.f6, .bool x.f7, .bool x.f8, .int .i64 x.f9, .string x.f10, .string x.f11, .string x.f12, .int .i64 x.f13, .bool x.f14, .bool x.f15, .int .i64 x.f16.f0, .int .i64 x.f16.f1, .string x.f17, .int .i64 x.f18, .int .i64 x.f19, .int .i64 x.f20, .int .i64 x.f21, .int .i64 x.f22, .bool x.f23, .int .u64 x.f24, .slice A27 x.f25.length c27, .int .i64 x.f26, .string x.f27, .int .i64 x.f28, .int .i64 x.f29], rfl, rfl, ⟨[.slice A4 x.f4.length c4], [.int .i64 x.f5.f0, .int .i64 x.f5.f1, .bool x.f6, .bool x.f7, .bool x.f8, .int .i64 x.f9, .string x.f10, .string x.f11, .string x.f12, .int .i64 x.f13, .bool x.f14, .bool x.f15, .int .i64 x.f16.f0, .int .i64 x.f16.f1, .string x.f17, .int .i64 x.f18, .int .i64 x.f19, .int .i64 x.f20, .int .i64 x.f21, .int .i64 x.f22, .bool x.f23, .int .u64 x.f24, .slice A27 x.f25.length c27, .int .i64 x.f26, .string x.f27, .int .i64 x.f28, .int .i64 x.f29], rfl, ⟨A4, c4, rfl, l4, g4⟩, ⟨[.int .i64 x.f5.f0, .int .i64 x.f5.f1], [.bool x.f6, .bool x.f7, .bool x.f8, .int .i64 x.f9, .string x.f10, .string x.f11, .string x.f12, .int .i64 x.f13, .bool x.f14, .bool x.f15, .int .i64 x.f16.f0, .int .i64 x.f16.f1, .string x.f17, .int .i64 x.f18, .int .i64 x.f19, .int .i64 x.f20, .int .i64 x.f21, .int .i64 x.f22, .bool x.f23, .int .u64 x.f24, .slice A27 x.f25.length c27, .int .i64 x.f26, .string x.f27, .int .i64 x.f28, .int .i64 x.f29], rfl, (k37_mk w x.f5 ), ⟨[.bool x.f6], [.bool x.f7, .bool x.f8, .int .i64 x.f9, .string x.f10, .string x.f11, .string x.f12, .int .i64 x.f13, .bool x.f14, .bool x.f15, .int .i64 x.f16.f0, .int .i64 x.f16.f1, .string x.f17, .int .i64 x.f18, .int .i64 x.f19, .int .i64 x.f20, .int .i64 x.f21, .int .i64 x.f22, .bool x.f23, .int .u64 x.f24, .slice A27 x.f25.length c27, .int .i64 x.f26, .string x.f27, .int .i64 x.f28, .int .i64 x.f29], rfl, rfl, ⟨[.bool x.f7], [.bool x.f8, .int .i64 x.f9, .string x.f10, .string x.f11, .string x.f12, .int .i64 x.f13, .bool x.f14, .bool x.f15, .int .i64 x.f16.f0, .int .i64 x.f16.f1, .string x.f17, .int .i64 x.f18, .int .i64 x.f19, .int .i64 x.f20, .int .i64 x.f21, .int .i64 x.f22, .bool x.f23, .int .u64 x.f24, .slice A27 x.f25.length c27, .int .i64 x.f26, .string x.f27, .int .i64 x.f28, .int .i64 x.f29], rfl, rfl, ⟨[.bool x.f8], [.int .i64 x.f9, .string x.f10, .string x.f11, .string x.f12, .int .i64 x.f13, .bool x.f14, .bool x.f15, .int .i64 x.f16.f0, .int .i64 x.f16.f1, .string x.f17, .int .i64 x.f18, .int .i64 x.f19, .int .i64 x.f20, .int .i64 x.f21, .int .i64 x.f22, .bool x.f23, .int .u64 x.f24, .slice A27 x.f25.length c27, .int .i64 x.f26, .string x.f27, .int .i64 x.f28, .int .i64 x.f29], rfl, rfl, ⟨[.int .i64 x.f9], [.string x.f10, .string x.f11, .string x.f12, .int .i64 x.f13, .bool x.f14, .bool x.f15, .int .i64 x.f16.f0, .int .i64 x.f16.f1, .string x.f17, .int .i64 x.f18, .int .i64 x.f19, .int .i64 x.f20, .int .i64 x.f21, .int .i64 x.f22, .bool x.f23, .int .u64 x.f24, .slice A27 x.f25.length c27, .int .i64 x.f26, .string x.f27, .int .i64 x.f28, .int .i64 x.f29], rfl, rfl, ⟨[.string x.f10], [.string x.f11, .string x.f12, .int .i64 x.f13, .bool x.f14, .bool x.f15, .int .i64 x.f16.f0, .int .i64 x.f16.f1, .string x.f17, .int .i64 x.f18, .int .i64 x.f19, .int .i64 x.f20, .int .i64 x.f21, .int .i64 x.f22, .bool x.f23, .int .u64 x.f24, .slice A27 x.f25.length c27, .int .i64 x.f26, .string x.f27, .int .i64 x.f28, .int .i64 x.f29], rfl, rfl, ⟨[.string x.f11], [.string x.f12, .int .i64 x.f13, .bool x.f14, .bool x.f15, .int .i64 x.f16.f0, .int .i64 x.f16.f1, .string x.f17, .int .i64 x.f18, .int .i64 x.f19, .int .i64 x.f20, .int .i64 x.f21, .int .i64 x.f22, .bool x.f23, .int .u64 x.f24, .slice A27 x.f25.length c27, .int .i64 x.f26, .string x.f27, .int .i64 x.f28, .int .i64 x.f29], rfl, rfl, ⟨[.string x.f12], [.int .i64 x.f13, .bool x.f14, .bool x.f15, .int .i64 x.f16.f0, .int .i64 x.f16.f1, .string x.f17, .int .i64 x.f18, .int .i64 x.f19, .int .i64 x.f20, .int .i64 x.f21, .int .i64 x.f22, .bool x.f23, .int .u64 x.f24, .slice A27 x.f25.length c27, .int .i64 x.f26, .string x.f27, .int .i64 x.f28, .int .i64 x.f29], rfl, rfl, ⟨[.int .i64 x.f13], [.bool x.f14, .bool x.f15, .int .i64 x.f16.f0, .int .i64 x.f16.f1, .string x.f17, .int .i64 x.f18, .int .i64 x.f19, .int .i64 x.f20, .int .i64 x.f21, .int .i64 x.f22, .bool x.f23, .int .u64 x.f24, .slice A27 x.f25.length c27, .int .i64 x.f26, .string x.f27, .int .i64 x.f28, .int .i64 x.f29], rfl, rfl, ⟨[.bool x.f14], [.bool x.f15, .int .i64 x.f16.f0, .int .i64 x.f16.f1, .string x.f17, .int .i64 x.f18, .int .i64 x.f19, .int .i64 x.f20, .int .i64 x.f21, .int .i64 x.f22, .bool x.f23, .int .u64 x.f24, .slice A27 x.f25.length c27, .int .i64 x.f26, .string x.f27, .int .i64 x.f28, .int .i64 x.f29], rfl, rfl, ⟨[.bool x.f15], [.int .i64 x.f16.f0, .int .i64 x.f16.f1, .string x.f17, .int .i64 x.f18, .int .i64 x.f19, .int .i64 x.f20, .int .i64 x.f21, .int .i64 x.f22, .bool x.f23, .int .u64 x.f24, .slice A27 x.f25.length c27, .int .i64 x.f26, .string x.f27, .int .i64 x.f28, .int .i64 x.f29], rfl, rfl, ⟨[.int .i64 x.f16.f0, .int .i64 x.f16.f1], [.string x.f17, .int .i64 x.f18, .int .i64 x.f19, .int .i64 x.f20, .int .i64 x.f21, .int .i64 x.f22, .bool x.f23, .int .u64 x.f24, .slice A27 x.f25.length c27, .int .i64 x.f26, .string x.f27, .int .i64 x.f28, .int .i64 x.f29], rfl, (k37_mk w x.f16 ), ⟨[.string x.f17], [.int .i64 x.f18, .int .i64 x.f19, .int .i64 x.f20, .int .i64 x.f21, .int .i64 x.f22, .bool x.f23, .int .u64 x.f24, .slice A27 x.f25.length c27, .int .i64 x.f26, .string x.f27, .int .i64 x.f28, .int .i64 x.f29], rfl, rfl, ⟨[.int .i64 x.f18], [.int .i64 x.f19, .int .i64 x.f20, .int .i64 x.f21, .int .i64 x.f22, .bool x.f23, .int .u64 x.f24, .slice A27 x.f25.length c27, .int .i64 x.f26, .string x.f27, .int .i64 x.f28, .int .i64 x.f29], rfl, rfl, ⟨[.int .i64 x.f19], [.int .i64 x.f20, .int .i64 x.f21, .int .i64 x.f22, .bool x.f23, .int .u64 x.f24, .slice A27 x.f25.length c27, .int .i64 x.f26, .string x.f27, .int .i64 x.f28, .int .i64 x.f29], rfl, rfl, ⟨[.int .i64 x.f20], [.int .i64 x.f21, .int .i64 x.f22, .bool x.f23, .int .u64 x.f24, .slice A27 x.f25.length c27, .int .i64 x.f26, .string x.f27, .int .i64 x.f28, .int .i64 x.f29], rfl, rfl, ⟨[.int .i64 x.f21], [.int .i64 x.f22, .bool x.f23, .int .u64 x.f24, .slice A27 x.f25.length c27, .int .i64 x.f26, .string x.f27, .int .i64 x.f28, .int .i64 x.f29], rfl, rfl, ⟨[.int .i64 x.f22], [.bool x.f23, .int .u64 x.f24, .slice A27 x.f25.length c27, .int .i64 x.f26, .string x.f27, .int .i64 x.f28, .int .i64 x.f29], rfl, rfl, ⟨[.bool x.f23], [.int .u64 x.f24, .slice A27 x.f25.length c27, .int .i64 x.f26, .string x.f27, .int .i64 x.f28, .int .i64 x.f29], rfl, rfl, ⟨[.int .u64 x.f24], [.slice A27 x.f25.length c27, .int .i64 x.f26, .string x.f27, .int .i64 x.f28, .int .i64 x.f29], rfl, rfl, ⟨[.slice A27 x.f25.length c27], [.int .i64 x.f26, .string x.f27, .int .i64 x.f28, .int .i64 x.f29], rfl, ⟨A27, c27, rfl, l27, g27⟩, ⟨[.int .i64 x.f26], [.string x.f27, .int .i64 x.f28, .int .i64 x.f29], rfl, rfl, ⟨[.string x.f27], [.int .i64 x.f28, .int .i64 x.f29], rfl, rfl, ⟨[.int .i64 x.f28], [.int .i64 x.f29], rfl, rfl, rfl⟩⟩⟩⟩⟩⟩⟩⟩⟩⟩⟩⟩⟩⟩⟩⟩⟩⟩⟩⟩⟩⟩⟩⟩⟩⟩⟩⟩⟩
theorem k42_mkM (w : World) (base : Nat) (ok : Nat → Prop) (x : S42) {v4 : Value} (g4 : k39.R 39 w base ok v4 x.f4) {v27 : Value} (g27 : k39.R 39 w base ok v27 x.f25) : k42.M w base ok x [.int .i64 x.f0, .string x.f1, .int .i64 x.f2, .int .i64 x.f3, v4, .int .i64 x.f5.f0, .int .i64 x.f5.f1, .bool x.f6, .bool x.f7, .bool x.f8, .int .i64 x.f9, .string x.f10, .string x.f11, .string x.f12, .int .i64 x.f13, .bool x.f14, .bool x.f15, .int .i64 x.f16.f0, .int .i64 x.f16.f1, .string x.f17, .int .i64 x.f18, .int .i64 x.f19, .int .i64 x.f20, .int .i64 x.f21, .int .i64 x.f22, .bool x.f23, .int .u64 x.f24, v27, .int .i64 x.f26, .string x.f27, .int .i64 x.f28, .int .i64 x.f29] := ⟨[.int .i64 x.f0], [.string x.f1, .int .i64 x.f2, .int .i64 x.f3, v4, .int .i64 x.f5.f0, .int .i64 x.f5.f1, .bool x.f6, .bool x.f7, .bool x.f8, .int .i64 x.f9, .string x.f10, .string x.f11, .string x.f12, .int .i64 x.f13, .bool x.f14, .bool x.f15, .int .i64 x.f16.f0, .int .i64 x.f16.f1, .string x.f17, .int .i64 x.f18, .int .i64 x.f19, .int .i64 x.f20, .int .i64 x.f21, .int .i64 x.f22, .bool x.f23, .int .u64 x.f24, v27, .int .i64 x.f26, .string x.f27, .int .i64 x.f28, .int .i64 x.f29], rfl, rfl, ⟨[.string x.f1], [.int .i64 x.f2, .int .i64 x.f3, v4, .int .i64 x.f5.f0, .int .i64 x.f5.f1, .bool x.f6, .bool x.f7, .bool x.f8, .int .i64 x.f9, .string x.f10, .string x.f11, .string x.f12, .int .i64 x.f13, .bool x.f14, .bool x.f15, .int .i64 x.f16.f0, .int .i64 x.f16.f1, .string x.f17, .int .i64 x.f18, .int .i64 x.f19, .int .i64 x.f20, .int .i64 x.f21, .int .i64 x.f22, .bool x.f23, .int .u64 x.f24, v27, .int .i64 x.f26, .string x.f27, .int .i64 x.f28, .int .i64 x.f29], rfl, rfl, ⟨[.int .i64 x.f2], [.int .i64 x.f3, v4, .int .i64 x.f5.f0, .int .i64 x.f5.f1, .bool x.f6, .bool x.f7, .bool x.f8, .int .i64 x.f9, .string x.f10, .string x.f11, .string x.f12, .int .i64 x.f13, .bool x.f14, .bool x.f15, .int .i64 x.f16.f0, .int .i64 x.f16.f1, .string x.f17, .int .i64 x.f18, .int .i64 x.f19, .int .i64 x.f20, .int .i64 x.f21, .int .i64 x.f22, .bool x.f23, .int .u64 x.f24, v27, .int .i64 x.f26, .string x.f27, .int .i64 x.f28, .int .i64 x.f29], rfl, rfl, ⟨[.int .i64 x.f3], [v4, .int .i64 x.f5.f0, .int .i64 x.f5.f1, .bool x.f6, .bool x.f7, .bool x.f8, .int .i64 x.f9, .string x.f10, .string x.f11, .string x.f12, .int .i64 x.f13, .bool x.f14, .bool x.f15, .int .i64 x.f16.f0, .int .i64 x.f16.f1, .string x.f17, .int .i64 x.f18, .int .i64 x.f19, .int .i64 x.f20, .int .i64 x.f21, .int .i64 x.f22, .bool x.f23, .int .u64 x.f24, v27, .int .i64 x.f26, .string x.f27, .int .i64 x.f28, .int .i64 x.f29], rfl, rfl, ⟨[v4], [.int .i64 x.f5.f0, .int .i64 x.f5.f1, .bool x.f6, .bool x.f7, .bool x.f8, .int .i64 x.f9, .string x.f10, .string x.f11, .string x.f12, .int .i64 x.f13, .bool x.f14, .bool x.f15, .int .i64 x.f16.f0, .int .i64 x.f16.f1, .string x.f17, .int .i64 x.f18, .int .i64 x.f19, .int .i64 x.f20, .int .i64 x.f21, .int .i64 x.f22, .bool x.f23, .int .u64 x.f24, v27, .int .i64 x.f26, .string x.f27, .int .i64 x.f28, .int .i64 x.f29], rfl, ⟨v4, rfl, g4⟩, ⟨[.int .i64 x.f5.f0, .int .i64 x.f5.f1], [.bool x.f6, .bool x.f7, .bool x.f8, .int .i64 x.f9, .string x.f10, .string x.f11, .string x.f12, .int .i64 x.f13, .bool x.f14, .bool x.f15, .int .i64 x.f16.f0, .int .i64 x.f16.f1, .string x.f17, .int .i64 x.f18, .int .i64 x.f19, .int .i64 x.f20, .int .i64 x.f21, .int .i64 x.f22, .bool x.f23, .int .u64 x.f24, v27, .int .i64 x.f26, .string x.f27, .int .i64 x.f28, .int .i64 x.f29], rfl, (k37_mkM w base ok x.f5 ), ⟨[.bool x.f6], [.bool x.f7, .bool x.f8, .int .i64 x.f9, .string x.f10, .string x.f11, .string x.f12, .int .i64 x.f13, .bool x.f14, .bool x.f15, .int .i64 x.f16.f0, .int .i64 x.f16.f1, .string x.f17, .int .i64 x.f18, .int .i64 x.f19, .int .i64 x.f20, .int .i64 x.f21, .int .i64 x.f22, .bool x.f23, .int .u64 x.f24, v27, .int .i64 x.f26, .string x.f27, .int .i64 x.f28, .int .i64 x.f29], rfl, rfl, ⟨[.bool x.f7], [.bool x.f8, .int .i64 x.f9, .string x.f10, .string x.f11, .string x.f12, .int .i64 x.f13, .bool x.f14, .bool x.f15, .int .i64 x.f16.f0, .int .i64 x.f16.f1, .string x.f17, .int .i64 x.f18, .int .i64 x.f19, .int .i64 x.f20, .int .i64 x.f21, .int .i64 x.f22, .bool x.f23, .int .u64 x.f24, v27, .int .i64 x.f26, .string x.f27, .int .i64 x.f28, .int .i64 x.f29], rfl, rfl, ⟨[.bool x.f8], [.int .i64 x.f9, .string x.f10, .string x.f11, .string x.f12, .int .i64 x.f13, .bool x.f14, .bool x.f15, .int .i64 x.f16.f0, .int .i64 x.f16.f1, .string x.f17, .int .i64 x.f18, .int .i64 x.f19, .int .i64 x.f20, .int .i64 x.f21, .int .i64 x.f22, .bool x.f23, .int .u64 x.f24, v27, .int .i64 x.f26, .string x.f27, .int .i64 x.f28, .int .i64 x.f29], rfl, rfl, ⟨[.int .i64 x.f9], [.string x.f10, .string x.f11, .string x.f12, .int .i64 x.f13, .bool x.f14, .bool x.f15, .int .i64 x.f16.f0, .int .i64 x.f16.f1, .string x.f17, .int .i64 x.f18, .int .i64 x.f19, .int .i64 x.f20, .int .i64 x.f21, .int .i64 x.f22, .bool x.f23, .int .u64 x.f24, v27, .int .i64 x.f26, .string x.f27, .int .i64 x.f28, .int .i64 x.f29], rfl, rfl, ⟨[.string x.f10], [.string x.f11, .string x.f12, .int .i64 x.f13, .bool x.f14, .bool x.f15, .int .i64 x.f16.f0, .int .i64 x.f16.f1, .string x.f17, .int .i64 x.f18, .int .i64 x.f19, .int .i64 x.f20, .int .i64 x.f21, .int .i64 x.f22, .bool x.f23, .int .u64 x.f24, v27, .int .i64 x.f26, .string x.f27, .int .i64 x.f28, .int .i64 x.f29], rfl, rfl, ⟨[.string x.f11], [.string x.f12, .int .i64 x.f13, .bool x.f14, .bool x.f15, .int .i64 x.f16.f0, .int .i64 x.f16.f1, .string x.f17, .int .i64 x.f18, .int .i64 x.f19, .int .i64 x.f20, .int .i64 x.f21, .int .i64 x.f22, .bool x.f23, .int .u64 x.f24, v27, .int .i64 x.f26, .string x.f27, .int .i64 x.f28, .int .i64 x.f29], rfl, rfl, ⟨[.string x.f12], [.int .i64 x.f13, .bool x.f14, .bool x.f15, .int .i64 x.f16.f0, .int .i64 x.f16.f1, .string x.f17, .int .i64 x.f18, .int .i64 x.f19, .int .i64 x.f20, .int .i64 x.f21, .int .i64 x.f22, .bool x.f23, .int .u64 x.f24, v27, .int .i64 x.f26, .string x.f27, .int .i64 x.f28, .int .i64 x.f29], rfl, rfl, ⟨[.int .i64 x.f13], [.bool x.f14, .bool x.f15, .int .i64 x.f16.f0, .int .i64 x.f16.f1, .string x.f17, .int .i64 x.f18, .int .i64 x.f19, .int .i64 x.f20, .int .i64 x.f21, .int .i64 x.f22, .bool x.f23, .int .u64 x.f24, v27, .int .i64 x.f26, .string x.f27, .int .i64 x.f28, .int .i64 x.f29], rfl, rfl, ⟨[.bool x.f14], [.bool x.f15, .int .i64 x.f16.f0, .int .i64 x.f16.f1, .string x.f17, .int .i64 x.f18, .int .i64 x.f19, .int .i64 x.f20, .int .i64 x.f21, .int .i64 x.f22, .bool x.f23, .int .u64 x.f24, v27, .int .i64 x.f26, .string x.f27, .int .i64 x.f28, .int .i64 x.f29], rfl, rfl, ⟨[.bool x.f15], [.int .i64 x.f16.f0, .int .i64 x.f16.f1, .string x.f17, .int .i64 x.f18, .int .i64 x.f19, .int .i64 x.f20, .int .i64 x.f21, .int .i64 x.f22, .bool x.f23, .int .u64 x.f24, v27, .int .i64 x.f26, .string x.f27, .int .i64 x.f28, .int .i64 x.f29], rfl, rfl, ⟨[.int .i64 x.f16.f0, .int .i64 x.f16.f1], [.string x.f17, .int .i64 x.f18, .int .i64 x.f19, .int .i64 x.f20, .int .i64 x.f21, .int .i64 x.f22, .bool x.f23, .int .u64 x.f24, v27, .int .i64 x.f26, .string x.f27, .int .i64 x.f28, .int .i64 x.f29], rfl, (k37_mkM w base ok x.f16 ), ⟨[.string x.f17], [.int .i64 x.f18, .int .i64 x.f19, .int .i64 x.f20, .int .i64 x.f21, .int .i64 x.f22, .bool x.f23, .int .u64 x.f24, v27, .int .i64 x.f26, .string x.f27, .int .i64 x.f28, .int .i64 x.f29], rfl, rfl, ⟨[.int .i64 x.f18], [.int .i64 x.f19, .int .i64 x.f20, .int .i64 x.f21, .int .i64 x.f22, .bool x.f23, .int .u64 x.f24, v27, .int .i64 x.f26, .string x.f27, .int .i64 x.f28, .int .i64 x.f29], rfl, rfl, ⟨[.int .i64 x.f19], [.int .i64 x.f20, .int .i64 x.f21, .int .i64 x.f22, .bool x.f23, .int .u64 x.f24, v27, .int .i64 x.f26, .string x.f27, .int .i64 x.f28, .int .i64 x.f29], rfl, rfl, ⟨[.int .i64 x.f20], [.int .i64 x.f21, .int .i64 x.f22, .bool x.f23, .int .u64 x.f24, v27, .int .i64 x.f26, .string x.f27, .int .i64 x.f28, .int .i64 x.f29], rfl, rfl, ⟨[.int .i64 x.f21], [.int .i64 x.f22, .bool x.f23, .int .u64 x.f24, v27, .int .i64 x.f26, .string x.f27, .int .i64 x.f28, .int .i64 x.f29], rfl, rfl, ⟨[.int .i64 x.f22], [.bool x.f23, .int .u64 x.f24, v27, .int .i64 x.f26, .string x.f27, .int .i64 x.f28, .int .i64 x.f29], rfl, rfl, ⟨[.bool x.f23], [.int .u64 x.f24, v27, .int .i64 x.f26, .string x.f27, .int .i64 x.f28, .int .i64 x.f29], rfl, rfl, ⟨[.int .u64 x.f24], [v27, .int .i64 x.f26, .string x.f27, .int .i64 x.f28, .int .i64 x.f29], rfl, rfl, ⟨[v27], [.int .i64 x.f26, .string x.f27, .int .i64 x.f28, .int .i64 x.f29], rfl, ⟨v27, rfl, g27⟩, ⟨[.int .i64 x.f26], [.string x.f27, .int .i64 x.f28, .int .i64 x.f29], rfl, rfl, ⟨[.string x.f27], [.int .i64 x.f28, .int .i64 x.f29], rfl, rfl, ⟨[.int .i64 x.f28], [.int .i64 x.f29], rfl, rfl, rfl⟩⟩⟩⟩⟩⟩⟩⟩⟩⟩⟩⟩⟩⟩⟩⟩⟩⟩⟩⟩⟩⟩⟩⟩⟩⟩⟩⟩⟩
def rd_T42 (xs : List S42) (i : Int) : S42 := xs.getD i.toNat z42
theorem at_T42 {w : World} {A : Option Addr} {n : Nat} {xs : List S42} (h : Kd.C k42 w A n xs) (i : Int) (h0 : 0 ≤ i) (h1 : i < n) : ∃ ad A4 c4 A27 c27, A = some ad ∧ w.cell? (ad.add (i.toNat * 32)) = some (.int .i64 (rd_T42 xs i).f0) ∧ w.cell? ⟨(ad.add (i.toNat * 32)).block, (ad.add (i.toNat * 32)).off + 1, none⟩ = some (.string (rd_T42 xs i).f1) ∧ w.cell? ⟨(ad.add (i.toNat * 32)).block, (ad.add (i.toNat * 32)).off + 2, none⟩ = some (.int .i64 (rd_T42 xs i).f2) ∧ w.cell? ⟨(ad.add (i.toNat * 32)).block, (ad.add (i.toNat * 32)).off + 3, none⟩ = some (.int .i64 (rd_T42 xs i).f3) ∧ w.cell? ⟨(ad.add (i.toNat * 32)).block, (ad.add (i.toNat * 32)).off + 4, none⟩ = some (.slice A4 (rd_T42 xs i).f4.length c4) ∧ w.cell? ⟨(ad.add (i.toNat * 32)).block, (ad.add (i.toNat * 32)).off + 5, none⟩ = some (.int .i64 (rd_T42 xs i).f5.f0) ∧ w.cell? ⟨(ad.add (i.toNat * 32)).block, (ad.add (i.toNat * 32)).off + 6, none⟩ = some (.int .i64 (rd_T42 xs i).f5.f1) ∧ w.cell? ⟨(ad.add (i.toNat * 32)).block, (ad.add (i.toNat * 32)).off + 7, none⟩ = some (.bool (rd_T42 xs i).f6) ∧ w.cell? ⟨(ad.add (i.toNat * 32)).block, (ad.add (i.toNat * 32)).off + 8, none⟩ = some (.bool (rd_T42 xs i).f7) ∧ w.cell? ⟨(ad.add (i.toNat * 32)).block, (ad.add (i.toNat * 32)).off + 9, none⟩ = some (.bool (rd_T42 xs i).f8) ∧ w.cell? ⟨(ad.add (i.toNat * 32)).block, (ad.add (i.toNat * 32)).off + 10, none⟩ = some (.int .i64 (rd_T42 xs i).f9) ∧ w.cell? ⟨(ad.add (i.toNat * 32)).block, (ad.add (i.toNat * 32)).off + 11, none⟩ = some (.string (rd_T42 xs i).f10) ∧ w.cell? ⟨(ad.add (i.toNat * 32)).block, (ad.add (i.toNat * 32)).off + 12, none⟩ = some (.string (rd_T42 xs i).f11) ∧ w.cell? ⟨(ad.add (i.toNat * 32)).block, (ad.add (i.toNat * 32)).off + 13, none⟩ = some (.string (rd_T42 xs i).f12) ∧ w.cell? ⟨(ad.add (i.toNat * 32)).block, (ad.add (i.toNat * 32)).off + 14, none⟩ = some (.int .i64 (rd_T42 xs i).f13) ∧ w.cell? ⟨(ad.add (i.toNat * 32)).block, (ad.add (i.toNat * 32)).off + 15, none⟩ = some (.bool (rd_T42 xs i).f14) ∧ w.cell? ⟨(ad.add (i.toNat * 32)).block, (ad.add (i.toNat * 32)).off + 16, none⟩ = some (.bool (rd_T42 xs i).f15) ∧ w.cell? ⟨(ad.add (i.toNat * 32)).block, (ad.add (i.toNat * 32)).off + 17, none⟩ = some (.int .i64 (rd_T42 xs i).f16.f0) ∧ w.cell? ⟨(ad.add (i.toNat * 32)).block, (ad.add (i.toNat * 32)).off + 18, none⟩ = some (.int .i64 (rd_T42 xs i).f16.f1) ∧ w.cell? ⟨(ad.add (i.toNat * 32)).block, (ad.add (i.toNat * 32)).off + 19, none⟩ = some (.string (rd_T42 xs i).f17) ∧ w.cell? ⟨(ad.add (i.toNat * 32)).block, (ad.add (i.toNat * 32)).off + 20, none⟩ = some (.int .i64 (rd_T42 xs i).f18) ∧ w.cell? ⟨(ad.add (i.toNat * 32)).block, (ad.add (i.toNat * 32)).off + 21, none⟩ = some (.int .i64 (rd_T42 xs i).f19) ∧ w.cell? ⟨(ad.add (i.toNat * 32)).block, (ad.add (i.toNat * 32)).off + 22, none⟩ = some (.int .i64 (rd_T42 xs i).f20) ∧ w.cell? ⟨(ad.add (i.toNat * 32)).block, (ad.add (i.toNat * 32)).off + 23, none⟩ = some (.int .i64 (rd_T42 xs i).f21) ∧ w.cell? ⟨(ad.add (i.toNat * 32)).block, (ad.add (i.toNat * 32)).off + 24, none⟩ = some (.int .i64 (rd_T42 xs i).f22) ∧ w.cell? ⟨(ad.add (i.toNat * 32)).block, (ad.add (i.toNat * 32)).off + 25, none⟩ = some (.bool (rd_T42 xs i).f23) ∧ w.cell? ⟨(ad.add (i.toNat * 32)).block, (ad.add (i.toNat * 32)).off + 26, none⟩ = some (.int .u64 (rd_T42 xs i).f24) ∧ w.cell? ⟨(ad.add (i.toNat * 32)).block, (ad.add (i.toNat * 32)).off + 27, none⟩ = some (.slice A27 (rd_T42 xs i).f25.length c27) ∧ w.cell? ⟨(ad.add (i.toNat * 32)).block, (ad.add (i.toNat * 32)).off + 28, none⟩ = some (.int .i64 (rd_T42 xs i).f26) ∧ w.cell? ⟨(ad.add (i.toNat * 32)).block, (ad.add (i.toNat * 32)).off + 29, none⟩ = some (.string (rd_T42 xs i).f27) ∧ w.cell? ⟨(ad.add (i.toNat * 32)).block, (ad.add (i.toNat * 32)).off + 30, none⟩ = some (.int .i64 (rd_T42 xs i).f28) ∧ w.cell? ⟨(ad.add (i.toNat * 32)).block, (ad.add (i.toNat * 32)).off + 31, none⟩ = some (.int .i64 (rd_T42 xs i).f29) ∧ (rd_T42 xs i).f4.length ≤ c4 ∧ k39.C w A4 (rd_T42 xs i).f4.length (rd_T42 xs i).f4 ∧ (rd_T42 xs i).f25.length ≤ c27 ∧ k39.C w A27 (rd_T42 xs i).f25.length (rd_T42 xs i).f25 := by
  obtain ⟨ad, c, e, _, hK, hc0⟩ := Kd.C_get h z42 i h0 h1
  have hc : ∀ j u, c[j]? = some u → w.cell? (ad.add (i.toNat * 32 + j)) = some u := hc0
  obtain ⟨A4, c4, A27, c27, rfl, l4, g4, l27, g27⟩ := k42_open hK
  exact ⟨ad, A4, c4, A27, c27, e, hc 0 _ rfl, by rw [← add_field _ _ 1 (by omega)]; exact hc 1 _ rfl, by rw [← add_field _ _ 2 (by omega)]; exact hc 2 _ rfl, by rw [← add_field _ _ 3 (by omega)]; exact hc 3 _ rfl, by rw [← add_field _ _ 4 (by omega)]; exact hc 4 _ rfl, by rw [← add_field _ _ 5 (by omega)]; exact hc 5 _ rfl, by rw [← add_field _ _ 6 (by omega)]; exact hc 6 _ rfl, by rw [← add_field _ _ 7 (by omega)]; exact hc 7 _ rfl, by rw [← add_field _ _ 8 (by omega)]; exact hc 8 _ rfl, by rw [← add_field _ _ 9 (by omega)]; exact hc 9 _ rfl, by rw [← add_field _ _ 10 (by omega)]; exact hc 10 _ rfl, by rw [← add_field _ _ 11 (by omega)]; exact hc 11 _ rfl, by rw [← add_field _ _ 12 (by omega)]; exact hc 12 _ rfl, by rw [← add_field _ _ 13 (by omega)]; exact hc 13 _ rfl, by rw [← add_field _ _ 14 (by omega)]; exact hc 14 _ rfl, by rw [← add_field _ _ 15 (by omega)]; exact hc 15 _ rfl, by rw [← add_field _ _ 16 (by omega)]; exact hc 16 _ rfl, by rw [← add_field _ _ 17 (by omega)]; exact hc 17 _ rfl, by rw [← add_field _ _ 18 (by omega)]; exact hc 18 _ rfl, by rw [← add_field _ _ 19 (by omega)]; exact hc 19 _ rfl, by rw [← add_field _ _ 20 (by omega)]; exact hc 20 _ rfl, by rw [← add_field _ _ 21 (by omega)]; exact hc 21 _ rfl, by rw [← add_field _ _ 22 (by omega)]; exact hc 22 _ rfl, by rw [← add_field _ _ 23 (by omega)]; exact hc 23 _ rfl, by rw [← add_field _ _ 24 (by omega)]; exact hc 24 _ rfl, by rw [← add_field _ _ 25 (by omega)]; exact hc 25 _ rfl, by rw [← add_field _ _ 26 (by omega)]; exact hc 26 _ rfl, by rw [← add_field _ _ 27 (by omega)]; exact hc 27 _ rfl, by rw [← add_field _ _ 28 (by omega)]; exact hc 28 _ rfl, by rw [← add_field _ _ 29 (by omega)]; exact hc 29 _ rfl, by rw [← add_field _ _ 30 (by omega)]; exact hc 30 _ rfl, by rw [← add_field _ _ 31 (by omega)]; exact hc 31 _ rfl, l4, g4, l27, g27⟩

end Go.Proofs.YtalkodandfjkmaaDoor.Print
