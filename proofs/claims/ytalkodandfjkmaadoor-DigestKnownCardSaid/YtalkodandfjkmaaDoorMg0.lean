/- Texts of this proof laid together: Av, AvR, AvO, AvQ, AvC, AvE, AvF, AvG, AvH, AvI, AvJ, AvK, AvU. -/
import Derived.WalkKit
import Derived.Orders
import Derived.Laws.AppendOwn
import Derived.Deep.MidRow
import Derived.Great.BuildSlice
import Derived.Below
import Derived.LoopN
import Derived.Scope
import Derived.Laws.StructEq
import Derived.ArgAppend
import Derived.Deep.Upon
import Derived.Deep.AppendSrc
/- An interpreter of the program's form in Lean over plain values: lists and structs by value, own memory by handles. What it answers, the program's calls answer (proved in the text behind). -/
set_option linter.unusedVariables false
namespace Go.Proofs.YtalkodandfjkmaaDoor.Av
open Go Go.RowKit

/-- Values: 'lst' a slice by value (what it holds never turns; m elements are known, n of them are its own), 'own' a slice that the code itself made and may write, 'ptr' a place of the code's own memory, 'ept' a place by value. -/
inductive AV where
  | any
  | v (x : Value)
  | lst (sz n m : Nat) (get : Nat → List AV)
  | ept (cells : List AV)
  | own (id ver : Nat)
  | gpt (id ver i off : Nat)
  | ptr (h off : Nat)
  | agg (cs : List AV)
  | tup (vs : List AV)
  | fn (f : Nat) (cap : List AV)
  | ifc (t : Nat) (x : AV)
  | z (nil : Bool) (sz : Nat)

/-- Blocks of the code's own: a variable's cells, a slice that may grow (its elements, each with its cells). -/
inductive Blk where
  | var (cs : List AV)
  | grow (e sz ver : Nat) (bv : Bool) (es : List (List AV))
  | dead

structure St where
  tmps : List AV
  H : List Blk
  base : Nat

inductive Ex where
  | norm
  | exit (id : Nat)
  | ret

/-- What the interpreter must know of a type. -/
inductive TD where
  | one (z : Value)
  | agg (sz : Nat) (fs : List (Nat × Nat × Bool)) (zs : List Value)
  | sl (e sz bytes : Nat)
  | no

structure Ctx where
  td : Nat → TD
  conc : Nat → Bool
  eqs : Nat → List Nat
  fn : Nat → Option Func
  zz : Nat → List Nat
  kl : List (List Nat × List Nat × List Nat)
  m : Nat → Option (List AV → Option (AV × List Blk))

namespace AV
def cells : AV → List AV
  | .agg cs => cs
  | x => [x]
def atom : AV → Bool
  | .v x => x.oneCell'
  | .agg _ | .tup _ | .any => false
  | _ => true
end AV

mutual
/-- No handle from n on. -/
def AV.hb (n : Nat) : AV → Bool
  | .own id _ | .gpt id _ _ _ | .ptr id _ => decide (id < n)
  | .agg cs | .tup cs | .fn _ cs => AV.hbs n cs
  | .ifc _ x => AV.hb n x
  | .any | .v _ | .lst .. | .ept _ | .z .. => true
def AV.hbs (n : Nat) : List AV → Bool
  | [] => true
  | x :: r => AV.hb n x && AV.hbs n r
end

mutual
/-- Does it hold nothing but itself (no slice, no place)? -/
def AV.flat : AV → Bool
  | .v _ | .z .. => true
  | .agg cs | .tup cs => AV.flats cs
  | .ifc _ x => AV.flat x
  | _ => false
def AV.flats : List AV → Bool
  | [] => true
  | x :: r => AV.flat x && AV.flats r
end

mutual
/-- Does it hold nothing but itself and own memory? -/
def AV.flo : AV → Bool
  | .v _ | .own _ _ | .any | .z .. => true
  | .agg cs | .tup cs => AV.flos cs
  | .ifc _ x => AV.flo x
  | _ => false
def AV.flos : List AV → Bool
  | [] => true
  | x :: r => AV.flo x && AV.flos r
end

mutual
/-- The real value, where there is no address in it. -/
def AV.plain : AV → Option Value
  | .v x => some x
  | .agg cs => match AV.plains cs with | some us => some (.agg us.toArray) | none => none
  | .ifc t x => match AV.plain x with | some u => some (.iface t u) | none => none
  | _ => none
def AV.plains : List AV → Option (List Value)
  | [] => some []
  | x :: r => match AV.plain x, AV.plains r with
    | some u, some us => some (u :: us)
    | _, _ => none
end

mutual
/-- By value: own slices read as they stand now. -/
def AV.val (H : List Blk) : AV → Option AV
  | .own id ver => match H[id]? with
    | some (.grow _ sz ver' true es) => if ver = ver' then some (.lst sz es.length es.length fun i => es.getD i []) else none
    | _ => none
  | .agg cs => match AV.vals H cs with | some ds => some (.agg ds) | none => none
  | .tup cs => match AV.vals H cs with | some ds => some (.tup ds) | none => none
  | .fn f cs => match AV.vals H cs with | some ds => some (.fn f ds) | none => none
  | .ifc t x => match AV.val H x with | some y => some (.ifc t y) | none => none
  | .gpt .. | .ptr .. => none
  | .any => some .any
  | .v x => some (.v x)
  | .lst sz n m get => some (.lst sz n m get)
  | .z _ sz => some (.lst sz 0 0 (fun i => if i < 0 then [] else []))
  | .ept cs => some (.ept cs)
def AV.vals (H : List Blk) : List AV → Option (List AV)
  | [] => some []
  | x :: r => match AV.val H x, AV.vals H r with
    | some y, some ys => some (y :: ys)
    | _, _ => none
end

mutual
/-- The handles moved on by k. -/
def AV.shift (k : Nat) : AV → AV
  | .own id ver => .own (id + k) ver
  | .gpt id ver i off => .gpt (id + k) ver i off
  | .ptr h off => .ptr (h + k) off
  | .agg cs => .agg (AV.shifts k cs)
  | .tup cs => .tup (AV.shifts k cs)
  | .fn f cs => .fn f (AV.shifts k cs)
  | .ifc t x => .ifc t (AV.shift k x)
  | .any => .any
  | .v x => .v x
  | .lst sz n m get => .lst sz n m get
  | .ept cs => .ept cs
  | .z b sz => .z b sz
def AV.shifts (k : Nat) : List AV → List AV
  | [] => []
  | x :: r => AV.shift k x :: AV.shifts k r
end
def Blk.shift (k : Nat) : Blk → Blk
  | .var cs => .var (AV.shifts k cs)
  | .grow e sz ver bv es => .grow e sz ver bv (if bv then es else es.map (AV.shifts k))
  | .dead => .dead
def Blk.flat : Blk → Bool
  | .grow _ _ _ _ es => es.all AV.flats
  | _ => false

def evA (tmps : List AV) : Operand → AV
  | .tmp t => tmps.getD t .any
  | .const c => .v c
  | .global g => .v (.pointer (some ⟨g, 0, none⟩))
  | .func f => .fn f []

/-- What a Sem program answers that touches no memory. -/
def pureOut (P : Program) {α : Type} : Sem α → Option α
  | .pure a => some a
  | .mark _ k => pureOut P k
  | .program k => pureOut P (k P)
  | _ => none

/-- A slice is one cell where it is loaded. -/
def TD.ld : TD → TD
  | .sl .. => .one (.slice none 0 0)
  | d => d
def loadA (C : Ctx) (t : Nat) (x : AV) (H : List Blk) : Option AV :=
  match (C.td t).ld, x with
  | .one _, .ptr h off => match H[h]? with | some (.var cs) => cs[off]? | _ => none
  | .one _, .gpt id ver i off => match H[id]? with
    | some (.grow _ _ ver' _ es) => if ver = ver' then match es[i]? with | some c => c[off]? | none => none else none
    | _ => none
  | .one _, .ept cs => cs[0]?
  | .agg sz _ _, .ptr h off => match H[h]? with
    | some (.var cs) => if off + sz ≤ cs.length then some (.agg ((cs.drop off).take sz)) else none
    | _ => none
  | .agg sz _ _, .gpt id ver i off => match H[id]? with
    | some (.grow _ _ ver' _ es) => if ver = ver' then match es[i]? with
        | some c => if off + sz ≤ c.length then some (.agg ((c.drop off).take sz)) else none
        | none => none else none
    | _ => none
  | .agg sz _ _, .ept cs => if sz ≤ cs.length then some (.agg (cs.take sz)) else none
  | _, _ => none

def splice (cs : List AV) (off : Nat) (ds : List AV) : List AV := cs.take off ++ ds ++ cs.drop (off + ds.length)

/-- In an element a list without elements is told as such. -/
def dz : AV → AV
  | .z _ sz => .lst sz 0 0 (fun i => if i < 0 then [] else [])
  | x => x
def TD.size : TD → Nat
  | .one _ => 1
  | .agg sz _ _ => sz
  | .sl .. => 1
  | .no => 0

def storeA (C : Ctx) (t : Nat) (x y : AV) (H : List Blk) : Option (List Blk) :=
  let ds := y.cells
  if 0 < ds.length ∧ ds.length = (C.td t).size ∧ ds.all AV.atom = true then
    match x with
    | .ptr h off => match H[h]? with
      | some (.var cs) => if off + ds.length ≤ cs.length then some (H.set h (.var (splice cs off ds))) else none
      | _ => none
    | .gpt id ver i off => match H[id]? with
      | some (.grow e sz ver' bv es) => if ver = ver' then match es[i]? with
          | some c => if off + ds.length ≤ c.length then some (H.set id (.grow e sz ver (bv && AV.hbs 0 (ds.map dz)) (es.set i (splice c off (ds.map dz))))) else none
          | none => none else none
      | _ => none
    | _ => none
  else none

/-- Zero cells: a slice's tells the size of its elements. -/
def zAV : List Nat → List Value → List AV
  | _, [] => []
  | [], u :: r => .v u :: zAV [] r
  | k :: ks, u :: r => (match u, k with
    | .slice none 0 0, k + 1 => .z true (k + 1)
    | u, _ => .v u) :: zAV ks r
def TD.zero : TD → Option (List Value)
  | .one z => some [z]
  | .agg _ _ zs => some zs
  | .sl .. => some [.slice .none 0 0]
  | .no => .none

/-- A nil slice that is laid where the zero cell tells the size of elements keeps telling it. -/
def zfix : List AV → List AV → List AV
  | _, [] => []
  | [], x :: s => x :: s
  | z :: r, x :: s => (match z, x with
    | .z _ (k + 1), .v (.slice none 0 0) => .z true (k + 1)
    | _, x => x) :: zfix r s
/-- The parts laid into the cells, one behind the other. -/
def afill (place : Nat → Option (Nat × Nat)) (cs : List AV) : List (Nat × AV) → Option (List AV)
  | [] => some cs
  | (i, x) :: r => match place i with
    | none => none
    | some (off, size) => if x.cells.length = size ∧ off + size ≤ cs.length ∧ x.cells.all AV.atom = true then afill place (splice cs off (zfix (cs.drop off) x.cells)) r else none

def chunks (sz : Nat) : Nat → List AV → List (List AV)
  | 0, _ => []
  | n + 1, cs => cs.take sz :: chunks sz n (cs.drop sz)

/-- An element of a slice: its place. -/
def idxA (sz : Nat) (x : AV) (i : Int) (H : List Blk) : Option AV :=
  match x with
  | .lst s n _ get => if s = sz then if 0 ≤ i ∧ i < n then some (.ept (get i.toNat)) else none else none
  | .own id ver => match H[id]? with
    | some (.grow _ s ver' _ es) => if ver = ver' ∧ s = sz then if 0 ≤ i ∧ i < es.length then some (.gpt id ver i.toNat 0) else none else none
    | _ => none
  | _ => none

def lenA (x : AV) (H : List Blk) : Option Nat :=
  match x with
  | .lst _ n _ _ => some n
  | .own id ver => match H[id]? with
    | some (.grow _ _ ver' _ es) => if ver = ver' then some es.length else none
    | _ => none
  | .v (.slice _ n _) => some n
  | .z _ _ => some 0
  | _ => none

/-- Held against nil, and of bools. -/
def eqNil : TD → AV → AV → Option Bool
  | .one .nilIface, .ifc _ _, .v .nilIface => some false
  | .one .nilIface, .v .nilIface, .ifc _ _ => some false
  | .one .nilIface, .v (.iface _ _), .v .nilIface => some false
  | .one .nilIface, .v .nilIface, .v (.iface _ _) => some false
  | .one .nilIface, .v .nilIface, .v .nilIface => some true
  | .one .nilFunc, .fn _ _, .v .nilFunc => some false
  | .one .nilFunc, .v .nilFunc, .v .nilFunc => some true
  | .one (.pointer none), .ept _, .v (.pointer none) => some false
  | .one (.pointer none), .v (.pointer none), .v (.pointer none) => some true
  | .one (.bool _), .v (.bool a), .v (.bool b) => some (a == b)
  | _, _, _ => none
def isConst : Operand → Bool
  | .const _ => true
  | _ => false
/-- Are two plain cells the same? -/
def scEq : Nat → Value → Value → Option Bool
  | 0, .int k a, .int k' b => if k = k' then some (decide (a = b)) else none
  | 1, .bool a, .bool b => some (a == b)
  | 2, .string a, .string b => some (decide (a = b))
  | _, _, _ => none
def scEqs : List Nat → List Value → List Value → Option Bool
  | [], [], [] => some true
  | k :: ks, a :: r, b :: s => match scEq k a b, scEqs ks r s with
    | some x, some y => some (x && y)
    | _, _ => none
  | _, _, _ => none
def plainsOf : List AV → Option (List Value)
  | [] => some []
  | .v x :: r => match plainsOf r with | some us => some (x :: us) | none => none
  | _ :: _ => none

/-- Operands that stand for plain values. -/
def evP (tmps : List AV) (x : Operand) : Option Value := AV.plain (evA tmps x)
def evR (tmps : List AV) (x : Operand) : Value := match AV.plain (evA tmps x) with | some u => u | none => undef

/-- What reads no memory: by the model's own operation, at plain operands. -/
def pureOp (P : Program) (tmps : List AV) (o : Oper) : Option AV :=
  if o.op.operands.toList.all (fun x => (evP tmps x).isSome) then
    match pureOut P (execOp (evR tmps) o) with
    | some (.value u) => some (.v u)
    | _ => none
  else none
/-- One cell or many, as a type has it. -/
def partOf (agg : Bool) (cs : List AV) : Option AV :=
  if agg then some (.agg cs) else match cs with | [x] => some x | _ => none

/-- A list's parts, and nothing behind its end. -/
def nrm (m : Nat) (get : Nat → List AV) : Nat → List AV := fun i => if i < m then get i else []
def boundA (d : Int) : Option AV → Option Int
  | none => some d
  | some (.v (.int _ l)) => some l
  | _ => none
def sliceA (d : TD) (x : AV) (lo hi mx : Option AV) : Option AV :=
  match d, x with
  | .sl _ sz' _, .lst sz n m get => if sz = sz' ∧ (mx.isNone || hi.isSome) = true then match boundA 0 lo, boundA n hi, boundA m mx with
      | some l, some h, some k => if 0 ≤ l ∧ l ≤ h ∧ h ≤ k ∧ k ≤ m then some (.lst sz (h.toNat - l.toNat) (k.toNat - l.toNat) (nrm (k.toNat - l.toNat) fun i => get (l.toNat + i))) else none
      | _, _, _ => none else none
  | .one (.string _), .v (.string s) => if mx.isNone = true then match boundA 0 lo, boundA s.size hi with
      | some l, some h => if 0 ≤ l ∧ l ≤ h ∧ h ≤ s.size then some (.v (.string (s.extract l.toNat h.toNat))) else none
      | _, _ => none else none
  | _, _ => none
/-- A part without elements and without room. -/
def zeroCut : Option Operand → Option Operand → Option Operand → Bool
  | none, some (.const (.int _ 0)), some (.const (.int _ 0)) => true
  | _, _, _ => false
def zeroA (d : TD) (x : AV) (H : List Blk) : Option AV := match d with
  | .sl _ sz _ => (match x with
    | .lst s _ _ _ => if s = sz then some (.z false sz) else none
    | .z _ s => if s = sz then some (.z false sz) else none
    | .own id ver => match H[id]? with
      | some (.grow _ s v _ _) => if ver = v ∧ s = sz then some (.z false sz) else none
      | _ => none
    | _ => none)
  | _ => none
def fieldA (x : AV) (o : Nat) (H : List Blk) : Option AV :=
  match x with
  | .ptr h off => match H[h]? with | some (.var _) => some (.ptr h (off + o)) | _ => none
  | .gpt id ver i off => match H[id]? with | some (.grow _ _ ver' _ _) => if ver = ver' then some (.gpt id ver i (off + o)) else none | _ => none
  | .ept cs => some (.ept (cs.drop o))
  | _ => none
def isBoolT : TD → Bool
  | .one (.bool _) => true
  | _ => false
/-- Are two the same? -/
def eqA (C : Ctx) (t : Nat) (c : Bool) (a b : AV) : Option Bool :=
  match a, b with
  | .agg cs, .agg ds => match plainsOf cs, plainsOf ds, C.eqs t with
    | some us, some vs, k :: ks => scEqs (k :: ks) us vs
    | _, _, _ => none
  | _, _ => if (c || isBoolT (C.td t)) = true then eqNil (C.td t) a b else none
def callMA (C : Ctx) (f : AV) (args : List AV) (H : List Blk) : Option (AV × List Blk) :=
  match f with
  | .fn n caps => match C.m n with
    | some m => match AV.vals H (args ++ caps) with
      | some as => match m as with
        | some (r, Hr) => if (r.flo && Hr.all Blk.flat) || AV.hbs 0 (args ++ caps) then some (r, Hr) else none
        | none => none
      | none => none
    | none => none
  | _ => none

/-- The larger or the smaller of two numbers. -/
def mmA : Bool → List AV → Option AV
  | true, [.v (.int k a), .v (.int _ b)] => some (.v (.int k (max a b)))
  | false, [.v (.int k a), .v (.int _ b)] => some (.v (.int k (min a b)))
  | _, _ => none
/-- Of texts. -/
def opS : BinOp → AV → AV → Option AV
  | .eql, .v (.string a), .v (.string b) => some (.v (.bool (decide (a = b))))
  | .neq, .v (.string a), .v (.string b) => some (.v (.bool (!decide (a = b))))
  | .shl, .v (.int k a), .v (.int _ (.ofNat n)) => some (.v (.int k (k.wrap (a * 2 ^ min n k.bits))))
  | .shr, .v (.int k a), .v (.int _ (.ofNat n)) => some (.v (.int k (a.fdiv (2 ^ min n k.bits))))
  | .rem, .v (.int k a), .v (.int k' b) => if k = k' ∧ ¬ b = 0 then some (.v (.int k (a.tmod b))) else none
  | .quo, .v (.int k a), .v (.int k' b) => if k = k' ∧ ¬ b = 0 then some (.v (.int k (k.wrap (a.tdiv b)))) else none
  | .add, .v (.string a), .v (.string b) => if a.size + b.size ≤ 9223372036854775807 then some (.v (.string (a ++ b))) else none
  | _, _, _ => none

/-- Operations that write nothing and make nothing. -/
def evOpQ (C : Ctx) (P : Program) (tmps : List AV) (H : List Blk) (o : Oper) : Option AV :=
  match o.op with
  | .move x | .assign x => some (evA tmps x)
  | .pick c a b => match evA tmps c with
    | .v (.bool t) => some (if t then evA tmps a else evA tmps b)
    | _ => none
  | .load t x => loadA C t (evA tmps x) H
  | .nilCheck x => match evA tmps x with
    | .ptr h off => match H[h]? with | some (.var _) => some (.ptr h off) | _ => none
    | .ept cs => some (.ept cs)
    | _ => none
  | .fieldAddr t x f => match C.td t with
    | .agg _ fs _ => match fs[f]? with
      | some (o, _, _) => fieldA (evA tmps x) o H
      | none => none
    | _ => none
  | .field t x f => match C.td t with
    | .agg _ fs _ => match fs[f]?, evA tmps x with
      | some (o, sz, ag), .agg cs => if o + sz ≤ cs.length then partOf ag ((cs.drop o).take sz) else none
      | _, _ => none
    | _ => none
  | .indexAddr t x i => match C.td t, evA tmps i with
    | .sl _ sz _, .v (.int _ n) => idxA sz (evA tmps x) n H
    | _, _ => none
  | .slice t x lo hi mx => match zeroCut lo hi mx with
    | true => zeroA (C.td t) (evA tmps x) H
    | false => sliceA (C.td t) (evA tmps x) (lo.map (evA tmps)) (hi.map (evA tmps)) (mx.map (evA tmps))
  | .makeInterface t x => if C.conc t then some (match AV.plain (evA tmps x) with | some u => .v (.iface t u) | none => .ifc t (evA tmps x)) else none
  | .makeFunc (.func f) first caps => if first.size = 0 then some (.fn f (caps.toList.map (evA tmps))) else none
  | .extract x i => match evA tmps x with
    | .tup vs => vs[i]?
    | .v (.tuple vs) => match vs[i]? with | some u => some (.v u) | none => none
    | _ => none
  | .binOp .eql t x y _ => match eqA C t (isConst x || isConst y) (evA tmps x) (evA tmps y) with
    | some r => some (.v (.bool r))
    | none => match opS .eql (evA tmps x) (evA tmps y) with
      | some r => some r
      | none => pureOp P tmps o
  | .binOp .neq t x y _ => match eqA C t (isConst x || isConst y) (evA tmps x) (evA tmps y) with
    | some r => some (.v (.bool (!r)))
    | none => match opS .neq (evA tmps x) (evA tmps y) with
      | some r => some r
      | none => pureOp P tmps o
  | .binOp b _ x y _ => match opS b (evA tmps x) (evA tmps y) with
    | some r => some r
    | none => pureOp P tmps o
  | .build t parts => match C.td t with
    | .agg _ fs zs => match afill (fun i => (fs[i]?).map fun f => (f.1, f.2.1)) (zAV (C.zz t) zs) (parts.toList.map fun p => (p.1, evA tmps p.2)) with
      | some cs => some (.agg cs)
      | none => none
    | _ => none
  | .unOp .. => pureOp P tmps o
  | .index t x i => match C.td t, evA tmps x, evA tmps i with
    | .one (.string _), .v (.string s), .v (.int _ n) => if 0 ≤ n ∧ n < s.size then some (.v (.int .u8 (s.data.getD n.toNat 0).toNat)) else none
    | _, _, _ => none
  | .convert src dst x => match C.td src, C.td dst, evA tmps x with
    | .one (.int _ _), .one (.int k _), .v (.int _ n) => some (.v (.int k (k.wrap n)))
    | .one (.string _), .one (.string _), .v (.string s) => some (.v (.string s))
    | _, _, _ => none
  | .call c => match c.callee with
    | .builtin .len => match c.args.toList, c.argTypes.toList with
      | [x], [t] => match C.td t, evA tmps x with
        | .sl _ _ _, y => match lenA y H with | some n => some (.v (.int .i64 n)) | none => none
        | .one (.string _), .v (.string s) => some (.v (.int .i64 s.size))
        | _, _ => none
      | _, _ => none
    | .builtin .min => match mmA false (c.args.toList.map (evA tmps)) with | some r => some r | none => pureOp P tmps o
    | .builtin .max => match mmA true (c.args.toList.map (evA tmps)) with | some r => some r | none => pureOp P tmps o
    | .value f => match callMA C (evA tmps f) (c.args.toList.map (evA tmps)) H with
      | some (r, Hr) => AV.val Hr r
      | none => none
    | _ => none
  | _ => none

def put (tmps : List AV) (d : Option Nat) (x : AV) : List AV := match d with | some i => tmps.set i x | none => tmps

/-- What is appended: its elements; whether they are by value. -/
def appArg (sz : Nat) (x : AV) (H : List Blk) : Option (List (List AV) × Bool) :=
  match x with
  | .lst s n _ get => if s = sz then some ((List.range n).map get, true) else none
  | .own id ver => match H[id]? with
    | some (.grow _ s ver' bv es) => if ver = ver' ∧ s = sz then some (es, bv) else none
    | _ => none
  | .v (.slice none 0 0) => some ([], true)
  | .z _ _ => some ([], true)
  | _ => none
def appendA (e sz bytes : Nat) (s x : AV) (H : List Blk) : Option (AV × List Blk) :=
  match appArg sz x H with
  | none => none
  | some (new, nbv) => match s with
    | .v (.slice none 0 0) => if new.length * bytes ≤ 140737488355328 ∧ new.length ≤ maxLen then some (.own H.length 0, H ++ [.grow e sz 0 nbv new]) else none
    | .z true _ => if new.length * bytes ≤ 140737488355328 ∧ new.length ≤ maxLen then some (.own H.length 0, H ++ [.grow e sz 0 nbv new]) else none
    | .z false _ => match decide (new.length = 0) with
      | true => some (.z false sz, H)
      | false => if new.length * bytes ≤ 140737488355328 ∧ new.length ≤ maxLen then some (.own H.length 0, H ++ [.grow e sz 0 nbv new]) else none
    | .own id ver => match H[id]? with
      | some (.grow e' s' ver' bv es) => if ver = ver' ∧ e = e' ∧ s' = sz ∧ (es.length + new.length) * bytes ≤ 140737488355328 ∧ es.length + new.length ≤ maxLen then
          some (.own id (ver + 1), H.set id (.grow e sz (ver + 1) (bv && nbv) (es ++ new))) else none
      | _ => none
    | _ => none

def AV.swap (id ver : Nat) (y : AV) : AV → AV
  | .own i r => if i = id ∧ r = ver then y else .own i r
  | x => x
def Blk.swap (id ver : Nat) (y : AV) : Blk → Blk
  | .var cs => .var (cs.map (AV.swap id ver y))
  | b => b
/-- Own lists within are let go of: from there on they never turn. -/
def frz (H : List Blk) : AV → AV × List Blk
  | .own id ver => match H[id]? with
    | some (.grow _ sz v true es) => if ver = v then (.lst sz es.length es.length (fun i => es.getD i []), (H.set id .dead).map (Blk.swap id ver (.lst sz es.length es.length (fun i => es.getD i [])))) else (.own id ver, H)
    | _ => (.own id ver, H)
  | .z _ sz => (.lst sz 0 0 (fun i => if i < 0 then [] else []), H)
  | x => (x, H)
def frzs : List AV → List Blk → List AV × List Blk
  | [], H => ([], H)
  | x :: r, H => ((frz H x).1 :: (frzs r (frz H x).2).1, (frzs r (frz H x).2).2)

/-- Bytes as numbers, and as a text. -/
def bytesA : List AV → Option (List Int)
  | [] => some []
  | .v (.int .u8 n) :: r => match bytesA r with | some ns => some (n :: ns) | none => none
  | _ => none
def bytesOf (ns : List Int) : ByteArray := ns.foldl (fun r n => r.push (UInt8.ofNat n.toNat)) ByteArray.empty
/-- A text of bytes. -/
def convA (s d e : TD) (x : AV) (H : List Blk) : Option AV :=
  match s, d, e with
  | .sl _ 1 _, .one (.string _), .one (.int .u8 _) => match appArg 1 x H with
    | some (new, _) => match bytesA new.flatten with
      | some ns => some (.v (.string (bytesOf ns)))
      | none => none
    | none => none
  | _, _, _ => none
def TD.elem : TD → Nat
  | .sl e _ _ => e
  | _ => 0
/-- A row of bytes that is marked as a text's: it never turns from there on. -/
def markA (s e : TD) (x : AV) (H : List Blk) : Option (AV × List Blk) :=
  match s, e, x with
  | .sl _ 1 _, .one (.int .u8 _), .own id ver => match H[id]? with
    | some (.grow _ 1 v true (c :: es)) => if ver = v then some (.lst 1 (c :: es).length (c :: es).length (fun i => (c :: es).getD i []), H.set id .dead) else none
    | _ => none
  | _, _, _ => none

/-- A nil slice that is stored tells the size of its elements. -/
def zsl : TD → AV → AV
  | .sl _ (k + 1) _, .v (.slice none 0 0) => .z true (k + 1)
  | _, y => y

/-- Operations that write or make. -/
def evOpE (C : Ctx) (call : Nat → List AV → List Blk → Option (AV × List Blk)) (tmps : List AV) (H : List Blk) (o : Oper) : Option (AV × List Blk) :=
  match o.op with
  | .assign (.const (.slice none 0 0)) => match C.td o.type with
    | .sl e sz _ => some (.own H.length 0, H ++ [.grow e sz 0 true []])
    | _ => none
  | .slice t x lo hi mx => match zeroCut lo hi mx with
   | true => none
   | false => match evA tmps x with
    | .own id ver => match AV.val H (.own id ver) with
      | some y => match sliceA (C.td t) y (lo.map (evA tmps)) (hi.map (evA tmps)) (mx.map (evA tmps)) with
        | some z => some (z, H.set id .dead)
        | none => none
      | none => none
    | _ => none
  | .convert src dst x => match convA (C.td src) (C.td dst) (C.td (C.td src).elem) (evA tmps x) H with
    | some y => some (y, H)
    | none => if src = dst then markA (C.td src) (C.td (C.td src).elem) (evA tmps x) H else none
  | .alloc t => match C.td t with
    | .sl e sz _ => some (.ptr (H.length + 1) 0, H ++ [.grow e sz 0 true [], .var [.own H.length 0]])
    | _ => match (C.td t).zero with
      | some zs => some (.ptr H.length 0, H ++ [.var (zAV (C.zz t) zs)])
      | none => none
  | .box _ x => if (evA tmps x).cells.all AV.atom then some (.ptr H.length 0, H ++ [.var (evA tmps x).cells]) else none
  | .store t x y => match storeA C t (evA tmps x) (zsl (C.td t) (evA tmps y)) H with | some H' => some (.any, H') | none => none
  | .buildSlice t n parts => match C.td t with
    | .sl e sz _ => match (C.td e).zero with
      | some zs => if 0 < n * sz ∧ n * sz ≤ 16777216 then
          match afill (fun i => some (i * sz, sz)) (List.replicate n (zAV (C.zz e) zs)).flatten (parts.toList.map fun p => (p.1, evA tmps p.2)) with
          | some cs => some (.own (frzs cs H).2.length 0, (frzs cs H).2 ++ [.grow e sz 0 (AV.hbs 0 (frzs cs H).1) (chunks sz n (frzs cs H).1)])
          | none => none
        else if n = 0 ∧ parts.size = 0 then some (.own H.length 0, H ++ [.grow e sz 0 true []]) else none
      | none => none
    | _ => none
  | .call c => match c.callee with
    | .builtin .append => match c.args.toList, c.argTypes.toList with
      | [s, x], [t, t'] => if t = t' then match C.td t with
        | .sl e sz bytes => appendA e sz bytes (evA tmps s) (evA tmps x) H
        | _ => none else none
      | _, _ => none
    | .value f => match callMA C (evA tmps f) (c.args.toList.map (evA tmps)) H with
      | some (r, Hr) => some (r.shift H.length, H ++ Hr.map (Blk.shift H.length))
      | none => match evA tmps f with
        | .fn n caps => call n (c.args.toList.map (evA tmps) ++ caps) H
        | _ => none
    | _ => none
  | _ => none

/-- An operation. -/
def evOp (C : Ctx) (P : Program) (call : Nat → List AV → List Blk → Option (AV × List Blk)) (tmps : List AV) (H : List Blk) (o : Oper) : Option (AV × List Blk) :=
  match evOpE C call tmps H o with
  | some r => some r
  | none => match evOpQ C P tmps H o with
    | some x => some (x, H)
    | none => none

/-- Is it wanted? (An '&&' or '||' guards it.) -/
def wantA (ops : Array Oper) (tmps : List AV) (o : Oper) : Option Bool :=
  match o.guard with
  | none => some true
  | some (j, b) => match (ops[j]?).bind (·.dst) with
    | some d => match tmps.getD d .any with
      | .v (.bool t) => some (t == b)
      | .v (.tuple _) => some false
      | _ => none
    | none => none

def evOps (C : Ctx) (P : Program) (call : Nat → List AV → List Blk → Option (AV × List Blk)) (ops : Array Oper) : List Oper → St → Option St
  | [], s => some s
  | o :: r, s => match wantA ops s.tmps o with
    | some true => match evOp C P call s.tmps s.H o with
      | some (x, H) => evOps C P call ops r ⟨put s.tmps o.dst x, H, s.base⟩
      | none => none
    | some false => evOps C P call ops r ⟨put s.tmps o.dst (.v undef), s.H, s.base⟩
    | none => none

def Blk.hb (n : Nat) : Blk → Bool
  | .var cs => AV.hbs n cs
  | .grow _ _ _ bv es => bv || es.all (AV.hbs n)
  | .dead => true
mutual
/-- At a loop's head the versions of what this call made begin anew. -/
def AV.ren (base : Nat) (H : List Blk) : AV → AV
  | .own id ver => if id < base then .own id ver else match H[id]? with
    | some (.grow _ _ v1 _ _) => if ver = v1 then .own id 0 else .any
    | _ => .any
  | .gpt id ver i off => if id < base then .gpt id ver i off else match H[id]? with
    | some (.grow _ _ v1 _ _) => if ver = v1 then .gpt id 0 i off else .any
    | _ => .any
  | .agg cs => .agg (AV.rens base H cs)
  | .tup cs => .tup (AV.rens base H cs)
  | .fn f cs => .fn f (AV.rens base H cs)
  | .ifc t x => .ifc t (AV.ren base H x)
  | .any => .any
  | .v x => .v x
  | .lst sz n m get => .lst sz n m get
  | .ept cs => .ept cs
  | .z b sz => .z b sz
  | .ptr h off => .ptr h off
def AV.rens (base : Nat) (H : List Blk) : List AV → List AV
  | [] => []
  | x :: r => AV.ren base H x :: AV.rens base H r
end
def Blk.ren (base : Nat) (H : List Blk) (k : Nat) : Blk → Blk
  | .var cs => .var (AV.rens base H cs)
  | .grow e sz ver bv es => .grow e sz (if k < base then ver else 0) bv (if bv then es else es.map (AV.rens base H))
  | .dead => .dead
def renG (base : Nat) (H : List Blk) : Nat → List Blk → List Blk
  | _, [] => []
  | k, b :: r => b.ren base H k :: renG base H (k + 1) r
/-- At a loop's head: what the round made is let go. -/
def clean0 (n : Nat) (s : St) : St :=
  if (s.H.take n).all (Blk.hb n) then ⟨s.tmps.map fun x => if AV.hb n x then x.ren s.base (s.H.take n) else .any, renG s.base (s.H.take n) 0 (s.H.take n), s.base⟩ else s

def clean (n : Nat) (s : St) : St := clean0 (min n s.H.length) s

def resA (C : Ctx) (tmps : List AV) (H : List Blk) : List ResultVar → Option (List AV)
  | [] => some []
  | .tmp t :: r => match resA C tmps H r with | some xs => some (tmps.getD t .any :: xs) | none => none
  | .cell a t :: r => match loadA C t (tmps.getD a .any) H, resA C tmps H r with
    | some x, some xs => some (x :: xs)
    | _, _ => none

/-- A call of a function, by a way to run code. -/
def evFn (C : Ctx) (run : Code → St → Option (Ex × St)) (f : Nat) (args : List AV) (H : List Blk) : Option (AV × List Blk) :=
  match C.fn f with
  | none => none
  | some fn => match fn.body with
    | none => none
    | some c => match run c ⟨args ++ List.replicate (fn.ntmps - args.length) .any, H, H.length⟩ with
      | some (.norm, s) | some (.ret, s) => match resA C s.tmps s.H fn.results.toList with
        | some [x] => some (x, s.H)
        | some xs => some (.tup xs, s.H)
        | none => none
      | _ => none

/-- A row of quiet operations, one behind the other: what each yields, and the slots behind. -/
def evQs (C : Ctx) (P : Program) (H : List Blk) (ops : Array Oper) : List Oper → List AV → Option (List AV × List AV)
  | [], tmps => some ([], tmps)
  | o :: r, tmps => match wantA ops tmps o with
    | some true => match evOpQ C P tmps H o with
      | some x => match evQs C P H ops r (put tmps o.dst x) with
        | some (xs, t) => some (x :: xs, t)
        | none => none
      | none => none
    | some false => match evQs C P H ops r (put tmps o.dst (.v undef)) with
      | some (xs, t) => some (.v undef :: xs, t)
      | none => none
    | none => none

def opTmps (xs : List Operand) : List Nat := xs.filterMap fun | .tmp t => some t | _ => none
/-- What an operation reads: its operands' slots, and its guard's. -/
def reads (ops : List Oper) (o : Oper) : List Nat :=
  opTmps o.op.operands.toList ++ (match o.guard with | some (j, _) => (match ops[j]? with | some g => g.dst.toList | none => []) | none => [])
def afters (o : Oper) : List Nat := o.after.toList.filterMap fun e => if Region.binds .any e then some e.on else none
/-- May a row be taken in the text's order, whatever order is drawn? No slot is written twice; what one reads and another writes is ordered between them; edges lead back. -/
def drawOk (ops : List Oper) : Bool :=
  ops.zipIdx.all fun (o, i) => (o.after.toList.all fun e => decide (e.on < i)) && (match o.op with | .select .. => false | _ => true) &&
    ops.zipIdx.all fun (p, j) => i == j || (match p.dst with
      | none => true
      | some t => !(o.dst == some t) && (!(reads ops o).contains t || (if j < i then (afters o).contains j else (afters p).contains i)))
/-- Does the last one wait for all others? -/
def sinkR (ops : List Oper) : Nat → List Nat → Bool
  | 0, _ => true
  | i + 1, R => R.contains i && sinkR ops i (match ops[i]? with | some p => afters p ++ R | none => R)
/-- Is it quiet at all? -/
def quietOp (C : Ctx) (tmps : List AV) (o : Oper) : Bool := match o.op with
  | .alloc _ | .box .. | .store .. | .buildSlice .. => false
  | .call c => match c.callee with
    | .builtin .append => false
    | .value f => match evA tmps f with | .fn n _ => (C.m n).isSome | _ => true
    | _ => true
  | _ => true
/-- The first one that is not quiet. -/
def cutAt (C : Ctx) : List Oper → Nat
  | [] => 0
  | o :: r => match quietOp C [] o with
    | true => cutAt C r + 1
    | false => 0
/-- Does each from a place on wait for all ahead of it? -/
def sinkFrom (ops : List Oper) : Nat → List Oper → Bool
  | _, [] => true
  | i, o :: r => sinkR ops i (afters o) && sinkFrom ops (i + 1) r
def sinkOk (C : Ctx) (ops : List Oper) : Bool := sinkFrom ops (cutAt C ops) (ops.drop (cutAt C ops))

/-- May the row be taken as quiet ones, with a tail that waits? -/
def oldOk (C : Ctx) (ops : List Oper) : Bool := drawOk ops && ((ops.drop (cutAt C ops)).isEmpty || sinkOk C ops)

/-- Does it look at memory? -/
def memQ (o : Oper) : Bool := match o.op with
  | .move _ | .assign _ | .pick .. | .extract .. | .makeInterface .. | .makeFunc .. | .binOp .. | .unOp .. | .build .. | .field .. => false
  | _ => true
/-- All that one waits for. -/
def clo (ops : List Oper) : Nat → List Nat → List Nat
  | 0, R => R
  | j + 1, R => clo ops j (if R.contains j then (match ops[j]? with | some p => afters p ++ R | none => R) else R)
/-- The first loud one, if it makes a new variable: others need not wait for it. -/
def floatAt (C : Ctx) (ops : List Oper) : Option Nat := match ops[cutAt C ops]? with
  | some o => match o.op, o.guard with
    | .alloc _, none => some (cutAt C ops)
    | _, _ => none
  | none => none
/-- Must one wait for one ahead of it? -/
def mustWait (C : Ctx) (f : Option Nat) (o : Oper) (i : Nat) (p : Oper) (j : Nat) : Bool :=
  match quietOp C [] o with
  | false => !quietOp C [] p || (memQ p && !(f == some i))
  | true => memQ o && !quietOp C [] p && !(f == some j)
/-- May a row be taken in the text's order, whatever order is drawn, though it writes? -/
def newOk (C : Ctx) (ops : List Oper) : Bool :=
  ops.zipIdx.all fun (o, i) => (afters o).all (fun k => decide (k < i)) && (match o.op with | .select .. => false | _ => true) &&
    (ops.zipIdx.all fun (p, j) => i == j || (match p.dst with
      | none => true
      | some t => !(o.dst == some t) && (!(reads ops o).contains t || (if j < i then (afters o).contains j else (afters p).contains i)))) &&
    ops.zipIdx.all fun (p, j) => !decide (j < i) || !mustWait C (floatAt C ops) o i p j || (clo ops i (afters o)).contains j
/-- Slots, memory, and memory without the new variable. -/
structure Ds where
  tmps : List AV
  H : List Blk
  pre : Option (List Blk)
def Ds.q (d : Ds) (w : Bool) : List Blk := match d.pre, w with
  | some H0, false => H0
  | _, _ => d.H
def stD (C : Ctx) (P : Program) (call : Nat → List AV → List Blk → Option (AV × List Blk)) (ops : Array Oper) (f : Option Nat) (w : Bool) (k : Nat) (o : Oper) (d : Ds) : Option (AV × Ds) :=
  match wantA ops d.tmps o with
  | some true => match quietOp C [] o with
    | true => match evOpQ C P d.tmps (d.q w) o with
      | some x => some (x, ⟨put d.tmps o.dst x, d.H, d.pre⟩)
      | none => none
    | false => match evOp C P call d.tmps d.H o with
      | some (x, H') => some (x, ⟨put d.tmps o.dst x, H', if f == some k then some d.H else none⟩)
      | none => none
  | some false => some (.v undef, ⟨put d.tmps o.dst (.v undef), d.H, if quietOp C [] o then d.pre else none⟩)
  | none => none
/-- Does it wait for the new variable? -/
def waitsF (C : Ctx) (ops : List Oper) (k : Nat) (o : Oper) : Bool := match floatAt C ops with
  | some f => (clo ops k (afters o)).contains f
  | none => false
def evD (C : Ctx) (P : Program) (call : Nat → List AV → List Blk → Option (AV × List Blk)) (ops : Array Oper) : Nat → List Oper → Ds → Option Ds
  | _, [], d => some d
  | k, o :: r, d => match stD C P call ops (floatAt C ops.toList) (waitsF C ops.toList k o) k o d with
    | some (_, d') => evD C P call ops (k + 1) r d'
    | none => none

/-- A new variable, made in any case. -/
def mkOp (C : Ctx) (o : Oper) : Bool := match o.op, o.guard with
  | .alloc t, none => (match C.td t with | .sl .. => false | _ => true)
  | .box _ _, none => true
  | _, _ => false
/-- Two new variables side by side behind quiet operations, and a tail that waits for all. -/
def twoOk (C : Ctx) (ops : List Oper) : Bool :=
  drawOk ops && (match ops.drop (cutAt C ops) with
    | o1 :: o2 :: r => mkOp C o1 && (mkOp C o2 && ((match o2.dst with | some t => !(reads ops o1).contains t | none => true) && ((match o1.dst with | some t => !(reads ops o2).contains t | none => true) && sinkFrom ops (cutAt C ops + 2) r)))
    | _ => false)
def hbAt (n : Nat) (t : List AV) : List Oper → Bool
  | [] => true
  | o :: r => (match o.dst with | some d => AV.hb n (t.getD d .any) | none => true) && hbAt n t r

def evDraw (C : Ctx) (P : Program) (call : Nat → List AV → List Blk → Option (AV × List Blk)) (ops : Array Oper) (s : St) : Option St :=
  match oldOk C ops.toList with
  | true => match evQs C P s.H ops ops.toList s.tmps with
    | some (_, t) => some ⟨t, s.H, s.base⟩
    | none => match evQs C P s.H ops (ops.toList.take (cutAt C ops.toList)) s.tmps with
      | some (_, t) => evOps C P call ops (ops.toList.drop (cutAt C ops.toList)) ⟨t, s.H, s.base⟩
      | none => none
  | false => match newOk C ops.toList with
    | true => match evD C P call ops 0 ops.toList ⟨s.tmps, s.H, none⟩ with
      | some d => some ⟨d.tmps, d.H, s.base⟩
      | none => none
    | false => match twoOk C ops.toList with
      | true => match evQs C P s.H ops (ops.toList.take (cutAt C ops.toList)) s.tmps with
        | some (_, t) => match hbAt s.H.length t (ops.toList.take (cutAt C ops.toList)) with
          | true => evOps C P call ops (ops.toList.drop (cutAt C ops.toList)) ⟨t, s.H, s.base⟩
          | false => none
        | none => none
      | false => none

def fills : Code → List Nat
  | .region _ ops _ => ops.toList.filterMap fun o => match o.op with | .assign _ => none | _ => o.dst
  | .seq a b => fills a ++ fills b
  | .cond _ x y => fills x ++ fills y
  | .block _ c => fills c
  | .loop c => fills c
  | .scope c => fills c
  | _ => []
/-- What is written so far, and what was read ahead of that. -/
def scanOps : List Oper → List Nat → List Nat → List Nat × List Nat
  | [], w, x => (w, x)
  | o :: r, w, x => scanOps r (o.dst.toList ++ w) ((opTmps o.op.operands.toList).filter (fun t => !w.contains t) ++ x)
def scan : Code → List Nat → List Nat → List Nat × List Nat
  | .region _ ops _, w, x => scanOps ops.toList w x
  | .seq a b, w, x => match scan a w x with | (w, x) => scan b w x
  | .cond c a b, w, x => match scan a w ((opTmps [c]).filter (fun t => !w.contains t) ++ x) with | (w, x) => scan b w x
  | .block _ c, w, x => scan c w x
  | .loop c, w, x => scan c w x
  | .scope c, w, x => scan c w x
  | _, w, x => (w, x)
/-- Slots that an expression within a round fills: none is read behind the round. -/
def kills (c : Code) : List Nat := match scan c [] [] with | (_, x) => (fills c).filter fun t => !x.contains t
def wipeT : List Nat → List AV → List AV
  | [], t => t
  | k :: ks, t => wipeT ks (t.set k .any)
def eqNs : List Nat → List Nat → Bool
  | [], [] => true
  | a :: r, b :: s => match Nat.beq a b with | true => eqNs r s | false => false
  | _, _ => false
/-- What is told of a loop: the slots that nothing looks at any more at its head, and behind it. -/
def klFind : List (List Nat × List Nat × List Nat) → List Nat → Option (List Nat × List Nat)
  | [], _ => none
  | (k, v) :: r, x => match eqNs k x with | true => some v | false => klFind r x
def killsH (kl : List (List Nat × List Nat × List Nat)) (c : Code) : List Nat := match klFind kl (fills c) with | some (h, _) => h | none => kills c
def killsX (kl : List (List Nat × List Nat × List Nat)) (c : Code) : List Nat := match klFind kl (fills c) with | some (_, x) => x | none => kills c
def wipe (kl : List (List Nat × List Nat × List Nat)) (c : Code) (s : St) : St := ⟨wipeT (killsH kl c) s.tmps, s.H, s.base⟩

/-- What a round made is let go where nothing holds it. -/
def cut0 (n : Nat) (s : St) : St := if s.tmps.all (AV.hb n) && (s.H.take n).all (Blk.hb n) then ⟨s.tmps, s.H.take n, s.base⟩ else s
def leave (kl : List (List Nat × List Nat × List Nat)) (c : Code) (n : Nat) (s : St) : St := cut0 (min n s.H.length) ⟨wipeT (killsX kl c) s.tmps, s.H, s.base⟩
/-- At a loop's head. -/
def head (kl : List (List Nat × List Nat × List Nat)) (c : Code) (s : St) : St := wipe kl c (clean s.H.length s)

def evCode (C : Ctx) (P : Program) : Nat → Code → St → Option (Ex × St)
  | 0, _, _ => none
  | n + 1, .skip, s => some (.norm, s)
  | n + 1, .label _, s => some (.norm, s)
  | n + 1, .region _ ops false, s => match evOps C P (evFn C (evCode C P n)) ops ops.toList s with
    | some s' => some (.norm, s')
    | none => none
  | n + 1, .region _ ops true, s => match evDraw C P (evFn C (evCode C P n)) ops s with
    | some s' => some (.norm, s')
    | none => none
  | n + 1, .seq a b, s => match evCode C P n a s with
    | some (.norm, s') => evCode C P n b s'
    | r => r
  | n + 1, .cond c x y, s => match evA s.tmps c with
    | .v (.bool t) => if t then evCode C P n x s else evCode C P n y s
    | _ => none
  | n + 1, .block id c, s => match evCode C P n c s with
    | some (.exit i, s') => if i = id then some (.norm, s') else some (.exit i, s')
    | r => r
  | n + 1, .loop c, s => match evCode C P n c (head C.kl c s) with
    | some (.norm, s') => evCode C P n (.loop c) (clean s.H.length s')
    | some (.exit i, s') => some (.exit i, leave C.kl c s.H.length s')
    | some (.ret, s') => some (.ret, leave C.kl c s.H.length s')
    | none => none
  | n + 1, .exit id, s => some (.exit id, s)
  | n + 1, .ret, s => some (.ret, s)
  | n + 1, .scope c, s => evCode C P n c s
  | n + 1, _, _ => none
end Go.Proofs.YtalkodandfjkmaaDoor.Av

/- How the interpreter's values stand for the program's: readings that never turn (by value), and own memory by handles. -/
set_option linter.unusedVariables false
namespace Go.Proofs.YtalkodandfjkmaaDoor.Av
open Go Go.RowKit

/-- What never turns: cells of the memory, by their places. -/
abbrev Sto := Addr → Option Value

inductive RepV (S : Sto) : AV → Value → Prop
  | any (x) : RepV S .any x
  | v (x) : RepV S (.v x) x
  | nil (sz get) : RepV S (.lst sz 0 0 get) (.slice none 0 0)
  | lst (sz n m : Nat) (get : Nat → List AV) (a : Addr) (cap : Nat) (f : Nat → Nat → Value) (hnm : n ≤ m) (hn : m ≤ cap) (hl : ∀ i, i < m → (get i).length = sz)
      (hs : ∀ i j, i < m → j < sz → S (a.add (i * sz + j)) = some (f i j)) (hr : ∀ (i j : Nat) x, i < m → (get i)[j]? = some x → RepV S x (f i j)) (h1 : ∀ i j, i < m → j < sz → (f i j).oneCell' = true) : RepV S (.lst sz n m get) (.slice (some a) n cap)
  | ept (cs : List AV) (a : Addr) (f : Nat → Value) (hs : ∀ j, j < cs.length → S (a.add j) = some (f j)) (hr : ∀ (j : Nat) x, cs[j]? = some x → RepV S x (f j)) : RepV S (.ept cs) (.pointer (some a))
  | agg (cs : List AV) (us : List Value) (hl : us.length = cs.length) (h : ∀ (j : Nat) x u, cs[j]? = some x → us[j]? = some u → RepV S x u) : RepV S (.agg cs) (.agg us.toArray)
  | tup (cs : List AV) (us : List Value) (hl : us.length = cs.length) (h : ∀ (j : Nat) x u, cs[j]? = some x → us[j]? = some u → RepV S x u) : RepV S (.tup cs) (.tuple us.toArray)
  | fn (f : Nat) (cs : List AV) (us : List Value) (hl : us.length = cs.length) (h : ∀ (j : Nat) x u, cs[j]? = some x → us[j]? = some u → RepV S x u) : RepV S (.fn f cs) (.func (.func f) #[] us.toArray)
  | ifc (t : Nat) (x u) (h : RepV S x u) : RepV S (.ifc t x) (.iface t u)
  | znil (b : Bool) (sz : Nat) : RepV S (.z b sz) (.slice none 0 0)
  | zsome (sz : Nat) (a : Addr) : RepV S (.z false sz) (.slice (some a) 0 0)

def Sto.le (S S' : Sto) : Prop := ∀ a u, S a = some u → S' a = some u
theorem Sto.le_refl (S : Sto) : S.le S := fun _ _ h => h
theorem Sto.le_trans {S S' S'' : Sto} (h : S.le S') (k : S'.le S'') : S.le S'' := fun a u e => k a u (h a u e)

theorem RepV.mono {S S' : Sto} (h : S.le S') {x u} (r : RepV S x u) : RepV S' x u := by
  induction r with
  | any x => exact .any x
  | v x => exact .v x
  | nil sz get => exact .nil sz get
  | lst sz n m get a cap f hnm hn hl hs hr h1 ih => exact .lst sz n m get a cap f hnm hn hl (fun i j hi hj => h _ _ (hs i j hi hj)) ih h1
  | ept cs a f hs hr ih => exact .ept cs a f (fun j hj => h _ _ (hs j hj)) ih
  | agg cs us hl k ih => exact .agg cs us hl ih
  | tup cs us hl k ih => exact .tup cs us hl ih
  | fn f cs us hl k ih => exact .fn f cs us hl ih
  | ifc t x u k ih => exact .ifc t x u ih
  | znil b sz => exact .znil b sz
  | zsome sz a => exact .zsome sz a

/-- Where an own slice lies: its block and its room; nowhere while it is nil. -/
abbrev Pl := Nat → Option (Nat × Nat)
def slv (p : Option (Nat × Nat)) (n : Nat) : Value :=
  match p with
  | none => .slice none 0 0
  | some (b, cap) => .slice (some ⟨b, 0, none⟩) n cap

inductive Rep (S : Sto) (H : List Blk) (pl : Pl) : AV → Value → Prop
  | val (x u) (h : RepV S x u) : Rep S H pl x u
  | own (id ver u) (hi : id < H.length) (h1 : u.oneCell' = true) (h : ∀ e sz v bv es, H[id]? = some (.grow e sz v bv es) → ver ≤ v ∧ (v = ver → u = slv (pl id) es.length)) : Rep S H pl (.own id ver) u
  | gpt (id ver i off u) (hi : id < H.length) (h1 : u.oneCell' = true) (h : ∀ e sz v bv es, H[id]? = some (.grow e sz v bv es) → ver ≤ v ∧ (v = ver → ∃ b cap, pl id = some (b, cap) ∧ u = .pointer (some ⟨b, i * sz + off, none⟩))) : Rep S H pl (.gpt id ver i off) u
  | ptr (k off u) (hi : k < H.length) (h1 : u.oneCell' = true) (h : ∀ cs, H[k]? = some (.var cs) → ∃ b c, pl k = some (b, c) ∧ u = .pointer (some ⟨b, off, none⟩)) : Rep S H pl (.ptr k off) u
  | agg (cs : List AV) (us : List Value) (hl : us.length = cs.length) (h : ∀ (j : Nat) x u, cs[j]? = some x → us[j]? = some u → Rep S H pl x u) : Rep S H pl (.agg cs) (.agg us.toArray)
  | tup (cs : List AV) (us : List Value) (hl : us.length = cs.length) (h : ∀ (j : Nat) x u, cs[j]? = some x → us[j]? = some u → Rep S H pl x u) : Rep S H pl (.tup cs) (.tuple us.toArray)
  | fn (f : Nat) (cs : List AV) (us : List Value) (hl : us.length = cs.length) (h : ∀ (j : Nat) x u, cs[j]? = some x → us[j]? = some u → Rep S H pl x u) : Rep S H pl (.fn f cs) (.func (.func f) #[] us.toArray)
  | ifc (t : Nat) (x u) (h : Rep S H pl x u) : Rep S H pl (.ifc t x) (.iface t u)

/-- Cells one by one. -/
def Cs (R : AV → Value → Prop) (cs : List AV) (us : List Value) : Prop := us.length = cs.length ∧ ∀ (j : Nat) x u, cs[j]? = some x → us[j]? = some u → R x u
theorem zAV_rep {S : Sto} : ∀ (ks : List Nat) (us : List Value), Cs (RepV S) (zAV ks us) us
  | ks, [] => by cases ks <;> exact ⟨rfl, fun j x u hx => by simp [zAV] at hx⟩
  | [], u :: us => by
    obtain ⟨h1, h2⟩ := zAV_rep (S := S) [] us
    refine ⟨by simp [zAV, h1], fun j x v hx hv => ?_⟩
    cases j with
    | zero => simp [zAV] at hx hv; subst hx; subst hv; exact .v _
    | succ j => simp [zAV] at hx hv; exact h2 j x v hx hv
  | k :: ks, u :: us => by
    obtain ⟨h1, h2⟩ := zAV_rep (S := S) ks us
    refine ⟨by simp [zAV, h1], fun j x v hx hv => ?_⟩
    cases j with
    | zero =>
      simp only [zAV, List.getElem?_cons_zero, Option.some.injEq] at hx hv
      subst hv
      subst hx
      split
      · exact .znil _ _
      · exact .v _
    | succ j => simp [zAV] at hx hv; exact h2 j x v hx hv
theorem zAV_len (ks : List Nat) (us : List Value) : (zAV ks us).length = us.length := (zAV_rep (S := fun _ => none) ks us).1.symm

/-- How own memory may have gone on. -/
structure Ext (B : Nat) (S : Sto) (H : List Blk) (pl : Pl) (S' : Sto) (H' : List Blk) (pl' : Pl) : Prop where
  new : ∀ a u, S' a = some u → S a = some u ∨ B ≤ a.block
  S : S.le S'
  len : H.length ≤ H'.length
  var : ∀ (k : Nat) cs', k < H.length → H'[k]? = some (.var cs') → ∃ cs, H[k]? = some (.var cs) ∧ pl' k = pl k
  grow : ∀ (k : Nat) e sz ver bv es', k < H.length → H'[k]? = some (.grow e sz ver bv es') → ∃ e0 ver0 bv0 es, H[k]? = some (.grow e0 sz ver0 bv0 es) ∧ ver0 ≤ ver ∧ (ver = ver0 → es'.length = es.length ∧ pl' k = pl k)

theorem Ext.refl {B : Nat} (S : Sto) (H : List Blk) (pl : Pl) : Ext B S H pl S H pl := ⟨fun a u h => .inl h, S.le_refl, Nat.le_refl _, fun k cs hk h => ⟨cs, h, rfl⟩, fun k e sz ver bv es hk h => ⟨e, ver, bv, es, h, Nat.le_refl _, fun _ => ⟨rfl, rfl⟩⟩⟩
theorem Ext.trans {B : Nat} {S S1 S2 : Sto} {H H1 H2 : List Blk} {pl pl1 pl2 : Pl} (h : Ext B S H pl S1 H1 pl1) (k : Ext B S1 H1 pl1 S2 H2 pl2) : Ext B S H pl S2 H2 pl2 := by
  refine ⟨fun a u e => (k.new a u e).elim (fun e => h.new a u e) .inr, Sto.le_trans h.S k.S, Nat.le_trans h.len k.len, fun i cs hi e => ?_, fun i e sz ver bv es hi q => ?_⟩
  · obtain ⟨cs1, e1, p1⟩ := k.var i cs (Nat.lt_of_lt_of_le hi h.len) e
    obtain ⟨cs0, e0, p0⟩ := h.var i cs1 hi e1
    exact ⟨cs0, e0, p1.trans p0⟩
  · obtain ⟨x1, v1, b1, es1, e1, g1, k1⟩ := k.grow i e sz ver bv es (Nat.lt_of_lt_of_le hi h.len) q
    obtain ⟨x0, v0, b0, es0, e0, g0, k0⟩ := h.grow i _ _ _ _ _ hi e1
    refine ⟨x0, v0, b0, es0, e0, Nat.le_trans g0 g1, fun hv => ?_⟩
    have a1 := k1 (by omega)
    have a0 := k0 (by omega)
    exact ⟨a1.1.trans a0.1, a1.2.trans a0.2⟩

theorem Rep.mono {B : Nat} {S S' : Sto} {H H' : List Blk} {pl pl' : Pl} (h : Ext B S H pl S' H' pl') {x u} (r : Rep S H pl x u) : Rep S' H' pl' x u := by
  induction r with
  | val x u r => exact .val x u (r.mono h.S)
  | own id ver u hi h1 k =>
    refine .own id ver u (Nat.lt_of_lt_of_le hi h.len) h1 fun e sz v bv es q => ?_
    obtain ⟨e0, v0, bv0, es0, q0, g, hk⟩ := h.grow id e sz v bv es hi q
    obtain ⟨k1, k2⟩ := k _ _ _ _ _ q0
    refine ⟨Nat.le_trans k1 g, fun hv => ?_⟩
    obtain ⟨l, p⟩ := hk (by omega)
    rw [p, l]
    exact k2 (by omega)
  | gpt id ver i off u hi h1 k =>
    refine .gpt id ver i off u (Nat.lt_of_lt_of_le hi h.len) h1 fun e sz v bv es q => ?_
    obtain ⟨e0, v0, bv0, es0, q0, g, hk⟩ := h.grow id e sz v bv es hi q
    obtain ⟨k1, k2⟩ := k _ _ _ _ _ q0
    refine ⟨Nat.le_trans k1 g, fun hv => ?_⟩
    obtain ⟨l, p⟩ := hk (by omega)
    rw [p]
    exact k2 (by omega)
  | ptr i off u hi h1 k =>
    refine .ptr i off u (Nat.lt_of_lt_of_le hi h.len) h1 fun cs q => ?_
    obtain ⟨cs0, q0, p⟩ := h.var i cs hi q
    rw [p]
    exact k _ q0
  | agg cs us hl k ih => exact .agg cs us hl ih
  | tup cs us hl k ih => exact .tup cs us hl ih
  | fn f cs us hl k ih => exact .fn f cs us hl ih
  | ifc t x u k ih => exact .ifc t x u ih

def Blk.lives : Blk → Prop
  | .dead => False
  | _ => True
/-- The block's number of what lives. -/
def live (H : List Blk) (pl : Pl) (k : Nat) (b : Nat) : Prop := (∃ x, H[k]? = some x ∧ x.lives) ∧ ∃ c, pl k = some (b, c)

/-- Own memory as it lies in the world. -/
structure HRel (B : Nat) (S : Sto) (H : List Blk) (pl : Pl) (w : World) : Prop where
  var : ∀ (k : Nat) cs, H[k]? = some (.var cs) → ∃ b c us t, pl k = some (b, c) ∧ B ≤ b ∧ w.heap[b]? = some (.cells us.toArray t (0, 0)) ∧ Cs (Rep S H pl) cs us ∧ ∀ u ∈ us, u.oneCell' = true
  grow : ∀ (k : Nat) e sz ver bv es, H[k]? = some (.grow e sz ver bv es) → 0 < sz ∧ (∀ c ∈ es, c.length = sz) ∧ (pl k = none → es = []) ∧ (bv = true → ∀ c ∈ es, AV.hbs 0 c = true) ∧
    ∃ xs, w.ownsRow B e sz (slv (pl k) es.length) es.length xs ∧ Cs (Rep S H pl) es.flatten xs ∧ ∀ u ∈ xs, u.oneCell' = true
  apart : ∀ k k' b, live H pl k b → live H pl k' b → k = k'
  sep : ∀ a u, S a = some u → ∀ k, ¬ live H pl k a.block

/-- The whole: own memory, what never turns, and that nothing older has turned. -/
structure WRel (G : World → Prop) (B : Nat) (w0 : World) (S : Sto) (H : List Blk) (pl : Pl) (w : World) : Prop where
  h : HRel B S H pl w
  imm : ∀ a u, S a = some u → w.cell? a = some u
  below : Below B w0 w
  base : B ≤ w.heap.size
  g : G w

def TRel (S : Sto) (H : List Blk) (pl : Pl) (tmps : List AV) (a : Act) : Prop := a.defers = [] ∧ a.tmps.size = tmps.length ∧ ∀ (i : Nat) x u, tmps[i]? = some x → a.tmps[i]? = some u → Rep S H pl x u
end Go.Proofs.YtalkodandfjkmaaDoor.Av

/- The interpreter's operations, held against the program's own: loads, places, tests, numbers. -/
set_option linter.unusedVariables false
set_option linter.unusedSimpArgs false
namespace Go.Proofs.YtalkodandfjkmaaDoor.Av
open Go Go.RowKit
variable {P : Program}

/-- What the zero of a type of one cell tells of the type. -/
def oneKind (z : Value) (d : TypeDesc) : Prop :=
  match z with
  | .nilIface => ∃ ms, d = .interface ms
  | .nilFunc => ∃ a b c, d = .func a b c
  | .pointer _ => ∃ e, d = .pointer e
  | .bool _ => d = .bool
  | .int k _ => d = .int k
  | .string _ => d = .string
  | _ => True
/-- What the table of types says is so. -/
structure TdOk (P : Program) (C : Ctx) : Prop where
  one : ∀ t z, C.td t = .one z → (∃ d, P.underlying t = some d ∧ d.isRow = false ∧ oneKind z d) ∧ ∃ i, P.info? t = some i ∧ i.size = 1 ∧ i.zero = some z ∧ z.oneCell' = true ∧ z.cells = #[z]
  agg : ∀ t sz fs zs, C.td t = .agg sz fs zs → ∃ flds i, P.underlying t = some (.struct flds) ∧ P.info? t = some i ∧ i.size = sz ∧ i.zero = some (.agg zs.toArray) ∧ zs.length = sz ∧ 0 < sz ∧ (∀ z ∈ zs, z.oneCell' = true) ∧
    flds.toList.length = fs.length ∧ ∀ (j : Nat) f o s (g : Bool), flds[j]? = some f → fs[j]? = some (o, s, g) → f.offset = o ∧ 0 < s ∧ o + s ≤ sz ∧ (∃ i', P.info? f.type = some i' ∧ i'.size = s) ∧
      ∃ d, P.underlying f.type = some d ∧ d.isRow = g ∧ (g = false → s = 1)
  sl : ∀ t e sz bytes, C.td t = .sl e sz bytes → P.underlying t = some (.slice e) ∧ 0 < sz ∧ (∃ i z, P.info? e = some i ∧ i.size = sz ∧ i.bytes = bytes ∧ i.zero = some z ∧ z.cells.size = sz) ∧ ∃ i, P.info? t = some i ∧ i.size = 1 ∧ i.zero = some (.slice none 0 0)
  conc : ∀ t, C.conc t = true → ∃ d, P.underlying t = some d ∧ (match d with | .interface _ => false | _ => true) = true

theorem Cs.get {R : AV → Value → Prop} {cs : List AV} {us : List Value} (h : Cs R cs us) {j : Nat} {x : AV} (hx : cs[j]? = some x) : ∃ u, us[j]? = some u ∧ R x u := by
  have hj : j < us.length := by rw [h.1]; exact (List.getElem?_eq_some_iff.1 hx).1
  exact ⟨us[j], List.getElem?_eq_getElem hj, h.2 j x _ hx (List.getElem?_eq_getElem hj)⟩
theorem Cs.mono {R R' : AV → Value → Prop} {cs : List AV} {us : List Value} (h : Cs R cs us) (k : ∀ x u, R x u → R' x u) : Cs R' cs us := ⟨h.1, fun j x u hx hu => k x u (h.2 j x u hx hu)⟩
theorem Cs.drop {R : AV → Value → Prop} {cs : List AV} {us : List Value} (h : Cs R cs us) (n : Nat) : Cs R (cs.drop n) (us.drop n) :=
  ⟨by simp [h.1], fun j x u hx hu => by rw [List.getElem?_drop] at hx hu; exact h.2 _ x u hx hu⟩
theorem Cs.take {R : AV → Value → Prop} {cs : List AV} {us : List Value} (h : Cs R cs us) (n : Nat) : Cs R (cs.take n) (us.take n) :=
  ⟨by simp [h.1], fun j x u hx hu => by
    rw [List.getElem?_take] at hx hu
    split at hx <;> simp_all
    exact h.2 _ x u hx hu⟩
theorem Cs.append {R : AV → Value → Prop} {cs ds : List AV} {us vs : List Value} (h : Cs R cs us) (k : Cs R ds vs) : Cs R (cs ++ ds) (us ++ vs) := by
  refine ⟨by simp [h.1, k.1], fun j x u hx hu => ?_⟩
  by_cases hj : j < cs.length
  · rw [List.getElem?_append_left hj] at hx
    rw [List.getElem?_append_left (by rw [h.1]; exact hj)] at hu
    exact h.2 j x u hx hu
  · rw [List.getElem?_append_right (by omega)] at hx
    rw [List.getElem?_append_right (by rw [h.1]; omega), h.1] at hu
    exact k.2 _ x u hx hu
theorem Cs.nil {R : AV → Value → Prop} : Cs R [] [] := ⟨rfl, fun j x u hx => by simp at hx⟩
theorem Cs.one {R : AV → Value → Prop} {x u} (h : R x u) : Cs R [x] [u] := ⟨rfl, fun j y v hx hu => by
  cases j with
  | zero => simp at hx hu; subst hx; subst hu; exact h
  | succ j => simp at hx⟩
theorem Cs.vals {R : AV → Value → Prop} {us : List Value} (h : ∀ u, R (.v u) u) : Cs R (us.map .v) us := ⟨by simp, fun j x u hx hu => by
  rw [List.getElem?_map, hu] at hx
  simp at hx
  subst hx
  exact h u⟩

section
variable {S : Sto} {H : List Blk} {pl : Pl} {G : World → Prop} {B : Nat} {w0 w : World}

theorem TRel.ev {tmps : List AV} {a : Act} (h : TRel S H pl tmps a) (x : Operand) : Rep S H pl (evA tmps x) (a.eval x) := by
  cases x with
  | tmp t =>
    show Rep S H pl (tmps.getD t .any) (a.tmps.getD t undef)
    by_cases ht : t < tmps.length
    · have hs : t < a.tmps.size := by rw [h.2.1]; exact ht
      have e1 : tmps[t]? = some tmps[t] := List.getElem?_eq_getElem ht
      have e2 : a.tmps[t]? = some a.tmps[t] := Array.getElem?_eq_getElem hs
      have := h.2.2 t _ _ e1 e2
      simpa [List.getD, Array.getD, ht, hs, e1, e2] using this
    · rw [show tmps.getD t AV.any = .any by simp [List.getD, List.getElem?_eq_none (Nat.le_of_not_lt ht)]]
      exact .val _ _ (.any _)
  | const c => exact .val _ _ (.v _)
  | global g => exact .val _ _ (.v _)
  | func f => exact .val _ _ (.fn f [] [] rfl (fun j x u hx => by simp at hx))

theorem TRel.put {tmps : List AV} {a : Act} (h : TRel S H pl tmps a) (d : Option Nat) {x u} (hx : Rep S H pl x u) : TRel S H pl (put tmps d x) (a.put d u) := by
  cases d with
  | none => exact h
  | some d =>
    refine ⟨h.1, by simp [Av.put, Act.put, h.2.1], fun i y v hy hv => ?_⟩
    simp only [Av.put, Act.put] at hy hv
    rw [Array.getElem?_setIfInBounds] at hv
    rw [List.getElem?_set] at hy
    by_cases e : d = i
    · subst e
      simp only [if_true] at hy hv
      split at hy
      · rw [if_pos (by rw [h.2.1]; assumption)] at hv
        simp at hy hv
        subst hy; subst hv
        exact hx
      · simp at hy
    · rw [if_neg e] at hy hv
      exact h.2.2 i y v hy hv

theorem TRel.mono {S' : Sto} {H' : List Blk} {pl' : Pl} {tmps : List AV} {a : Act} (h : TRel S H pl tmps a) (k : Ext B S H pl S' H' pl') : TRel S' H' pl' tmps a := ⟨h.1, h.2.1, fun i x u hx hu => (h.2.2 i x u hx hu).mono k⟩

/-! ### Readings -/
theorem run_loadVar_one {t : Nat} {a : Addr} {u : Value} {d : TypeDesc} (hu : P.underlying t = some d) (hd : d.isRow = false) (hc : w.cell? a = some u) : (loadVar t a).run P w = .ok u w := by
  have hagg : (isAgg t).run P w = .ok false w := by
    unfold isAgg
    rw [Sem.run_bind, run_underlying hu w]
    cases d <;> simp_all
  simp [loadVar, Sem.run_bind, hagg, load, Sem.run, hc]
theorem run_loadVar_agg {t : Nat} {a : Addr} {us : List Value} {flds : Array Field} {i : TypeInfo} (hu : P.underlying t = some (.struct flds)) (hi : P.info? t = some i) (hs : i.size = us.length) (hc : ∀ (j : Nat) v, us[j]? = some v → w.cell? (a.add j) = some v) : (loadVar t a).run P w = .ok (.agg us.toArray) w := by
  have hl := run_loadCells_list (P := P) w a us hc
  have hagg : (isAgg t).run P w = .ok true w := by
    unfold isAgg
    rw [Sem.run_bind, run_underlying hu w]
    simp
  simp [loadVar, Sem.run_bind, hagg, sizeOf, typeInfo, hi, hs, hl]

theorem cell_var (h : WRel G B w0 S H pl w) {k : Nat} {cs : List AV} (hk : H[k]? = some (.var cs)) {b c : Nat} (hp : pl k = some (b, c)) : ∃ us, Cs (Rep S H pl) cs us ∧ ∀ (j : Nat) u, us[j]? = some u → w.cell? ⟨b, j, none⟩ = some u := by
  obtain ⟨b', c', us, t, hp', _, hh, hc, _⟩ := h.h.var k cs hk
  rw [hp] at hp'
  obtain ⟨rfl, rfl⟩ := Prod.mk.inj (Option.some.inj hp')
  exact ⟨us, hc, fun j u hu => by rw [cell_of_row w b j _ _ _ hh]; simpa using hu⟩

theorem flat_get : ∀ (es : List (List AV)) (sz i : Nat) (c : List AV), (∀ c ∈ es, c.length = sz) → es[i]? = some c → (es.flatten.drop (i * sz)).take sz = c
  | [], sz, i, c, _, h => by simp at h
  | d :: es, sz, 0, c, hl, h => by
    simp at h
    subst h
    have := hl d List.mem_cons_self
    simp [← this]
  | d :: es, sz, i + 1, c, hl, h => by
    have hd := hl d List.mem_cons_self
    simp only [List.getElem?_cons_succ] at h
    have ih := flat_get es sz i c (fun c hc => hl c (List.mem_cons_of_mem _ hc)) h
    rw [List.flatten_cons, show (i + 1) * sz = d.length + i * sz by rw [hd, Nat.add_mul]; omega, List.drop_append, List.drop_eq_nil_of_le (by omega), List.nil_append, Nat.add_sub_cancel_left]
    exact ih

theorem slv_some {p : Option (Nat × Nat)} {n : Nat} : (slv p n).ownBlock = p.map (·.1) := by cases p <;> rfl
theorem cell_grow (h : WRel G B w0 S H pl w) {k e sz ver : Nat} {bv : Bool} {es : List (List AV)} (hk : H[k]? = some (.grow e sz ver bv es)) {b c : Nat} (hp : pl k = some (b, c)) {i : Nat} {el : List AV} (he : es[i]? = some el) :
    el.length = sz ∧ ∃ us, Cs (Rep S H pl) el us ∧ ∀ (j : Nat) u, us[j]? = some u → w.cell? ⟨b, i * sz + j, none⟩ = some u := by
  obtain ⟨h0, hl, _, _, xs, ho, hc, _⟩ := h.h.grow k e sz ver bv es hk
  have hel := hl el (List.mem_of_getElem? he)
  refine ⟨hel, (xs.drop (i * sz)).take sz, ?_, fun j u hu => ?_⟩
  · have := (hc.drop (i * sz)).take sz
    rwa [flat_get es sz i el hl he] at this
  · rw [List.getElem?_take] at hu
    split at hu
    · rw [List.getElem?_drop] at hu
      have := ho.cells (g := b) (by rw [slv_some, hp]; rfl) _ u hu
      rwa [Addr.add_lit, Nat.zero_add] at this
    · cases hu

theorem ld_one {C : Ctx} (hT : TdOk P C) {t : Nat} {z : Value} (h : (C.td t).ld = .one z) : ∃ d, P.underlying t = some d ∧ d.isRow = false := by
  cases hd : C.td t with
  | one z' => obtain ⟨⟨d, hu, hr, _⟩, _⟩ := hT.one t z' hd; exact ⟨d, hu, hr⟩
  | sl e sz by_ => exact ⟨_, (hT.sl t e sz by_ hd).1, rfl⟩
  | agg => rw [hd] at h; cases h
  | no => rw [hd] at h; cases h
theorem ld_agg {d : TD} {sz : Nat} {fs : List (Nat × Nat × Bool)} {zs : List Value} (h : d.ld = .agg sz fs zs) : d = .agg sz fs zs := by
  cases d <;> simp only [TD.ld, reduceCtorEq] at h
  exact h
theorem load_sound {C : Ctx} (hT : TdOk P C) (h : WRel G B w0 S H pl w) {t : Nat} {x y : AV} {u : Value} (hx : Rep S H pl x u) (e : loadA C t x H = some y) :
    ∃ r, (Instr.loadAt t u).run P w = .ok r w ∧ Rep S H pl y r := by
  unfold loadA at e
  split at e
  · rename_i z k off htd
    obtain ⟨d, hu, hd⟩ := ld_one hT htd
    cases hH : H[k]? with
    | none => simp [hH] at e
    | some blk =>
      cases blk <;> simp [hH] at e
      rename_i cs
      cases hx with
      | val _ _ hv => cases hv
      | ptr _ _ _ hi _ hp =>
        obtain ⟨b, c, hpl, rfl⟩ := hp cs hH
        obtain ⟨us, hc, hw⟩ := cell_var h hH hpl
        obtain ⟨v, hv, hr⟩ := hc.get e
        exact ⟨v, by simp only [Instr.loadAt, Instr.sureAddr, Sem.run_bind, Sem.run_pure, Result.andThen_ok]; exact run_loadVar_one hu hd (hw off v hv), hr⟩
  · rename_i z id ver i off htd
    obtain ⟨d, hu, hd⟩ := ld_one hT htd
    cases hH : H[id]? with
    | none => simp [hH] at e
    | some blk =>
      cases blk <;> simp [hH] at e
      rename_i e' sz ver' bv es
      obtain ⟨rfl, e⟩ := e
      cases he : es[i]? with
      | none => simp [he] at e
      | some el =>
        simp [he] at e
        cases hx with
        | val _ _ hv => cases hv
        | gpt _ _ _ _ _ hi _ hp =>
          obtain ⟨b, c, hpl, rfl⟩ := (hp _ _ _ _ _ hH).2 rfl
          obtain ⟨hel, us, hc, hw⟩ := cell_grow h hH hpl he
          obtain ⟨v, hv, hr⟩ := hc.get e
          exact ⟨v, by simp only [Instr.loadAt, Instr.sureAddr, Sem.run_bind, Sem.run_pure, Result.andThen_ok]; exact run_loadVar_one hu hd (hw off v hv), hr⟩
  · rename_i z cs htd
    obtain ⟨d, hu, hd⟩ := ld_one hT htd
    cases hx with
    | val _ _ hv =>
      cases hv with
      | ept _ a f hs hr =>
        have h0 : 0 < cs.length := (List.getElem?_eq_some_iff.1 e).1
        refine ⟨f 0, ?_, .val _ _ (hr 0 y e)⟩
        have := h.imm _ _ (hs 0 h0)
        rw [Addr.add_zero'] at this
        simp only [Instr.loadAt, Instr.sureAddr, Sem.run_bind, Sem.run_pure, Result.andThen_ok]
        exact run_loadVar_one hu hd this
  · rename_i sz fs zs k off htd
    obtain ⟨flds, i, hu, hi, hsz, hzz, hzl, hpos, _⟩ := hT.agg t _ _ _ (ld_agg htd)
    cases hH : H[k]? with
    | none => simp [hH] at e
    | some blk =>
      cases blk <;> simp [hH] at e
      rename_i cs
      obtain ⟨hle, rfl⟩ := e
      cases hx with
      | val _ _ hv => cases hv
      | ptr _ _ _ hi' _ hp =>
        obtain ⟨b, c, hpl, rfl⟩ := hp cs hH
        obtain ⟨us, hc, hw⟩ := cell_var h hH hpl
        have hc' := (hc.drop off).take sz
        refine ⟨.agg ((us.drop off).take sz).toArray, ?_, .agg _ _ hc'.1 hc'.2⟩
        simp only [Instr.loadAt, Instr.sureAddr, Sem.run_bind, Sem.run_pure, Result.andThen_ok]
        refine run_loadVar_agg hu hi (by rw [hsz, hc'.1]; simp; omega) fun j v hv => ?_
        rw [Addr.add_lit]
        rw [List.getElem?_take] at hv
        split at hv
        · rw [List.getElem?_drop] at hv; exact hw _ v hv
        · cases hv
  · rename_i sz fs zs id ver i off htd
    obtain ⟨flds, inf, hu, hi, hsz, hzz, hzl, hpos, _⟩ := hT.agg t _ _ _ (ld_agg htd)
    cases hH : H[id]? with
    | none => simp [hH] at e
    | some blk =>
      cases blk <;> simp [hH] at e
      rename_i e' sz' ver' bv es
      obtain ⟨rfl, e⟩ := e
      cases he : es[i]? with
      | none => simp [he] at e
      | some el =>
        simp [he] at e
        obtain ⟨hle, rfl⟩ := e
        cases hx with
        | val _ _ hv => cases hv
        | gpt _ _ _ _ _ hi' _ hp =>
          obtain ⟨b, c, hpl, rfl⟩ := (hp _ _ _ _ _ hH).2 rfl
          obtain ⟨hel, us, hc, hw⟩ := cell_grow h hH hpl he
          have hc' := (hc.drop off).take sz
          refine ⟨.agg ((us.drop off).take sz).toArray, ?_, .agg _ _ hc'.1 hc'.2⟩
          simp only [Instr.loadAt, Instr.sureAddr, Sem.run_bind, Sem.run_pure, Result.andThen_ok]
          refine run_loadVar_agg hu hi (by rw [hsz, hc'.1]; simp; omega) fun j v hv => ?_
          rw [Addr.add_lit]
          rw [List.getElem?_take] at hv
          split at hv
          · rw [List.getElem?_drop] at hv; rw [Nat.add_assoc]; exact hw _ v hv
          · cases hv
  · rename_i sz fs zs cs htd
    obtain ⟨flds, i, hu, hi, hsz, hzz, hzl, hpos, _⟩ := hT.agg t _ _ _ (ld_agg htd)
    split at e
    · rename_i hle
      obtain rfl := Option.some.inj e
      cases hx with
      | val _ _ hv =>
        cases hv with
        | ept _ a f hs hr =>
          have hl : ((List.range sz).map f).length = (cs.take sz).length := by simp; omega
          refine ⟨.agg ((List.range sz).map f).toArray, ?_, .val _ _ (.agg _ _ hl ?_)⟩
          · simp only [Instr.loadAt, Instr.sureAddr, Sem.run_bind, Sem.run_pure, Result.andThen_ok]
            refine run_loadVar_agg hu hi (by rw [hsz]; simp) fun j v hv => ?_
            have hj : j < sz := by have := (List.getElem?_eq_some_iff.1 hv).1; simpa using this
            rw [List.getElem?_map, List.getElem?_range hj] at hv
            simp at hv
            subst hv
            exact h.imm _ _ (hs j (by omega))
          · intro j x v hx hv
            have hj : j < sz := by have := (List.getElem?_eq_some_iff.1 hv).1; simpa using this
            rw [List.getElem?_map, List.getElem?_range hj] at hv
            simp at hv
            subst hv
            rw [List.getElem?_take, if_pos hj] at hx
            exact hr j x hx
    · cases e
  · cases e
end
end Go.Proofs.YtalkodandfjkmaaDoor.Av

/- The interpreter's quiet operations, held against the program's own. -/
set_option linter.unusedVariables false
set_option linter.unusedSimpArgs false
namespace Go.Proofs.YtalkodandfjkmaaDoor.Av
open Go Go.RowKit
variable {P : Program}
section
variable {S : Sto} {H : List Blk} {pl : Pl} {G : World → Prop} {B : Nat} {w0 w : World}

/-- Taken apart, by value or not. -/
theorem Rep.agg_inv {cs : List AV} {u : Value} (h : Rep S H pl (.agg cs) u) : ∃ us, u = .agg us.toArray ∧ Cs (Rep S H pl) cs us := by
  cases h with
  | val _ _ h => cases h with | agg _ us hl k => exact ⟨us, rfl, hl, fun j x u hx hu => .val _ _ (k j x u hx hu)⟩
  | agg _ us hl k => exact ⟨us, rfl, hl, k⟩
theorem Rep.tup_inv {cs : List AV} {u : Value} (h : Rep S H pl (.tup cs) u) : ∃ us, u = .tuple us.toArray ∧ Cs (Rep S H pl) cs us := by
  cases h with
  | val _ _ h => cases h with | tup _ us hl k => exact ⟨us, rfl, hl, fun j x u hx hu => .val _ _ (k j x u hx hu)⟩
  | tup _ us hl k => exact ⟨us, rfl, hl, k⟩
theorem Rep.fn_inv {f : Nat} {cs : List AV} {u : Value} (h : Rep S H pl (.fn f cs) u) : ∃ us, u = .func (.func f) #[] us.toArray ∧ Cs (Rep S H pl) cs us := by
  cases h with
  | val _ _ h => cases h with | fn _ _ us hl k => exact ⟨us, rfl, hl, fun j x u hx hu => .val _ _ (k j x u hx hu)⟩
  | fn _ _ us hl k => exact ⟨us, rfl, hl, k⟩
theorem Rep.ifc_inv {t : Nat} {x : AV} {u : Value} (h : Rep S H pl (.ifc t x) u) : ∃ v, u = .iface t v ∧ Rep S H pl x v := by
  cases h with
  | val _ _ h => cases h with | ifc _ _ v k => exact ⟨v, rfl, .val _ _ k⟩
  | ifc _ _ v k => exact ⟨v, rfl, k⟩
theorem Rep.v_inv {x u : Value} (h : Rep S H pl (.v x) u) : u = x := by
  cases h with | val _ _ h => cases h; rfl

theorem Cs.tail {R : AV → Value → Prop} {x : AV} {cs : List AV} {us : List Value} (h : Cs R (x :: cs) us) : ∃ u us', us = u :: us' ∧ R x u ∧ Cs R cs us' := by
  obtain ⟨hl, k⟩ := h
  cases us with
  | nil => simp at hl
  | cons u us' => exact ⟨u, us', rfl, k 0 x u rfl rfl, by simpa using hl, fun j y v hy hv => k (j + 1) y v (by simpa using hy) (by simpa using hv)⟩
theorem Cs.nil_inv {R : AV → Value → Prop} {us : List Value} (h : Cs R [] us) : us = [] := List.eq_nil_of_length_eq_zero h.1
theorem Cs.cons {R : AV → Value → Prop} {x : AV} {u : Value} {cs : List AV} {us : List Value} (h : R x u) (k : Cs R cs us) : Cs R (x :: cs) (u :: us) := Cs.append (Cs.one h) k

mutual
theorem plain_rep : (x : AV) → ∀ {v u : Value}, x.plain = some v → Rep S H pl x u → u = v
  | .v x, v, u, h, r => by simp [AV.plain] at h; subst h; exact r.v_inv
  | .agg cs, v, u, h, r => by
    obtain ⟨us, rfl, k⟩ := r.agg_inv
    simp only [AV.plain] at h
    cases hp : AV.plains cs with
    | none => simp [hp] at h
    | some vs => simp [hp] at h; subst h; rw [plains_rep cs hp k]
  | .ifc t x, v, u, h, r => by
    obtain ⟨y, rfl, k⟩ := r.ifc_inv
    simp only [AV.plain] at h
    cases hp : AV.plain x with
    | none => simp [hp] at h
    | some z => simp [hp] at h; subst h; rw [plain_rep x hp k]
  | .any, v, u, h, r => by simp [AV.plain] at h
  | .lst _ _ _ _, v, u, h, r => by simp [AV.plain] at h
  | .z _ _, v, u, h, r => by simp [AV.plain] at h
  | .ept _, v, u, h, r => by simp [AV.plain] at h
  | .own _ _, v, u, h, r => by simp [AV.plain] at h
  | .gpt _ _ _ _, v, u, h, r => by simp [AV.plain] at h
  | .ptr _ _, v, u, h, r => by simp [AV.plain] at h
  | .tup _, v, u, h, r => by simp [AV.plain] at h
  | .fn _ _, v, u, h, r => by simp [AV.plain] at h
theorem plains_rep : (cs : List AV) → ∀ {vs us : List Value}, AV.plains cs = some vs → Cs (Rep S H pl) cs us → us = vs
  | [], vs, us, h, k => by simp [AV.plains] at h; subst h; exact k.nil_inv
  | x :: cs, vs, us, h, k => by
    obtain ⟨u, us', rfl, hx, kc⟩ := k.tail
    simp only [AV.plains] at h
    cases hp : AV.plain x with
    | none => simp [hp] at h
    | some y =>
      cases hq : AV.plains cs with
      | none => simp [hp, hq] at h
      | some ys => simp [hp, hq] at h; subst h; rw [plain_rep x hp hx, plains_rep cs hq kc]
end

theorem pureOut_run {α : Type} : ∀ (e : Sem α) (x : α), pureOut P e = some x → ∀ w, e.run P w = .ok x w := by
  intro e
  induction e with
  | pure a => intro x h w; simp [pureOut] at h; subst h; rfl
  | mark m k ih => intro x h w; exact ih x h w
  | program k ih => intro x h w; exact ih P x h w
  | _ => intro x h w; simp [pureOut] at h

/-- What an operation owes: behind it, whatever comes next from related states. -/
def OpW (P : Program) (G : World → Prop) (B : Nat) (w0 : World) (o : Oper) (a : Act) (S : Sto) (H : List Blk) (pl : Pl) (w : World) (x : AV) (H' : List Blk) : Prop :=
  ∀ (next : Act → World → Prop) (Q : Exit → Act → World → Prop), (∀ u S' pl' w', Ext B S H pl S' H' pl' → WRel G B w0 S' H' pl' w' → Rep S' H' pl' x u → next (a.put o.dst u) w') → o.wp P a w next Q

theorem OpW.run {o : Oper} {a : Act} {x : AV} {H' : List Blk} {u : Value} {S' : Sto} {pl' : Pl} {w' : World} (hr : (execOp a.eval o).run P w = .ok (.value u) w') (he : Ext B S H pl S' H' pl') (hw : WRel G B w0 S' H' pl' w') (hx : Rep S' H' pl' x u) : OpW P G B w0 o a S H pl w x H' := by
  intro next Q k
  unfold Oper.wp
  rw [hr]
  exact k u S' pl' w' he hw hx
theorem OpW.skip {o : Oper} {a : Act} {H' : List Blk} {S' : Sto} {pl' : Pl} {w' : World} (hr : (execOp a.eval o).run P w = .ok .skip w') (he : Ext B S H pl S' H' pl') (hw : WRel G B w0 S' H' pl' w') : OpW P G B w0 o a S H pl w .any H' := by
  intro next Q k
  unfold Oper.wp
  rw [hr]
  exact k undef S' pl' w' he hw (.val _ _ (.any _))
theorem OpW.still {o : Oper} {a : Act} {x : AV} {u : Value} (h : WRel G B w0 S H pl w) (hr : (execOp a.eval o).run P w = .ok (.value u) w) (hx : Rep S H pl x u) : OpW P G B w0 o a S H pl w x H :=
  .run hr (Ext.refl _ _ _) h hx

theorem evR_eq {tmps : List AV} {a : Act} (ht : TRel S H pl tmps a) {x : Operand} (h : (evP tmps x).isSome = true) : evR tmps x = a.eval x := by
  obtain ⟨v, hv⟩ := Option.isSome_iff_exists.1 h
  have := plain_rep _ hv (ht.ev x)
  unfold evR
  rw [show AV.plain (evA tmps x) = some v from hv]
  exact this.symm

theorem pureOp_sound {tmps : List AV} {a : Act} {o : Oper} {x : AV} (ht : TRel S H pl tmps a) (h : WRel G B w0 S H pl w) (e : pureOp P tmps o = some x)
    (hc : ∀ r r' : Operand → Value, (∀ y ∈ o.op.operands, r y = r' y) → execOp r o = execOp r' o) : OpW P G B w0 o a S H pl w x H := by
  unfold pureOp at e
  split at e
  · rename_i hp
    split at e
    · rename_i u hu
      obtain rfl := Option.some.inj e
      have heq : execOp (evR tmps) o = execOp a.eval o := hc _ _ fun y hy => evR_eq ht (List.all_eq_true.1 hp y (Array.mem_toList_iff.2 hy))
      rw [heq] at hu
      exact .still h (pureOut_run _ _ hu w) (.val _ _ (.v _))
    · cases e
  · cases e
end
end Go.Proofs.YtalkodandfjkmaaDoor.Av

/- Calls by a summary: own slices lent for the call, what comes back joined to own memory. -/
set_option linter.unusedVariables false
set_option linter.unusedSimpArgs false
namespace Go.Proofs.YtalkodandfjkmaaDoor.Av
open Go Go.RowKit
variable {P : Program}

/-- A function's summary over plain values: what it answers the call answers, with own memory of its own. -/
def Models (P : Program) (G : World → Prop) (f : Nat) (m : List AV → Option (AV × List Blk)) : Prop :=
  ∀ (S : Sto) (w : World) (as : List AV) (vs : List Value) (r : AV) (Hr : List Blk), Cs (RepV S) as vs → (∀ a u, S a = some u → w.cell? a = some u) → G w → m as = some (r, Hr) →
    Calls P f vs.toArray w fun e w' => ∃ u S' plr, e = .returned u ∧ S.le S' ∧ (∀ a u, S' a = some u → a.block < w.heap.size → S a = some u) ∧ WRel G w.heap.size w S' Hr plr w' ∧ Rep S' Hr plr r u

section
variable {S : Sto} {H : List Blk} {pl : Pl} {G : World → Prop} {B : Nat} {w0 w : World}

mutual
theorem hb_val : (x : AV) → ∀ {u : Value}, AV.hb 0 x = true → Rep S H pl x u → RepV S x u
  | .any, u, _, _ => .any u
  | .v x, u, _, r => by rw [r.v_inv]; exact .v x
  | .lst _ _ _ _, u, _, r => by cases r; assumption
  | .z _ _, u, _, r => by cases r; assumption
  | .ept _, u, _, r => by cases r; assumption
  | .own _ _, u, h, _ => by simp [AV.hb] at h
  | .gpt _ _ _ _, u, h, _ => by simp [AV.hb] at h
  | .ptr _ _, u, h, _ => by simp [AV.hb] at h
  | .agg cs, u, h, r => by
    obtain ⟨us, rfl, k⟩ := r.agg_inv
    have := hbs_val cs (by simpa [AV.hb] using h) k
    exact .agg cs us this.1 this.2
  | .tup cs, u, h, r => by
    obtain ⟨us, rfl, k⟩ := r.tup_inv
    have := hbs_val cs (by simpa [AV.hb] using h) k
    exact .tup cs us this.1 this.2
  | .fn f cs, u, h, r => by
    obtain ⟨us, rfl, k⟩ := r.fn_inv
    have := hbs_val cs (by simpa [AV.hb] using h) k
    exact .fn f cs us this.1 this.2
  | .ifc t x, u, h, r => by
    obtain ⟨v, rfl, k⟩ := r.ifc_inv
    exact .ifc t x v (hb_val x (by simpa [AV.hb] using h) k)
theorem hbs_val : (cs : List AV) → ∀ {us : List Value}, AV.hbs 0 cs = true → Cs (Rep S H pl) cs us → Cs (RepV S) cs us
  | [], us, _, k => by rw [k.nil_inv]; exact Cs.nil
  | x :: cs, us, h, k => by
    obtain ⟨u, us', rfl, hx, kc⟩ := k.tail
    simp [AV.hbs] at h
    exact Cs.cons (hb_val x h.1 hx) (hbs_val cs h.2 kc)
end

mutual
theorem flat_rep {S' : Sto} {H' : List Blk} {pl' : Pl} : (x : AV) → ∀ {u : Value}, AV.flat x = true → Rep S H pl x u → RepV S' x u
  | .v x, u, _, r => by rw [r.v_inv]; exact .v x
  | .agg cs, u, h, r => by
    obtain ⟨us, rfl, k⟩ := r.agg_inv
    have := flats_rep (S' := S') (H' := H') (pl' := pl') cs (by simpa [AV.flat] using h) k
    exact .agg cs us this.1 this.2
  | .tup cs, u, h, r => by
    obtain ⟨us, rfl, k⟩ := r.tup_inv
    have := flats_rep (S' := S') (H' := H') (pl' := pl') cs (by simpa [AV.flat] using h) k
    exact .tup cs us this.1 this.2
  | .ifc t x, u, h, r => by
    obtain ⟨v, rfl, k⟩ := r.ifc_inv
    exact .ifc t x v (flat_rep (H' := H') (pl' := pl') x (by simpa [AV.flat] using h) k)
  | .any, u, h, _ => by simp [AV.flat] at h
  | .lst _ _ _ _, u, h, _ => by simp [AV.flat] at h
  | .z _ _, u, _, r => by cases r; rename_i r; cases r <;> first | exact .znil _ _ | exact .zsome _ _
  | .ept _, u, h, _ => by simp [AV.flat] at h
  | .own _ _, u, h, _ => by simp [AV.flat] at h
  | .gpt _ _ _ _, u, h, _ => by simp [AV.flat] at h
  | .ptr _ _, u, h, _ => by simp [AV.flat] at h
  | .fn _ _, u, h, _ => by simp [AV.flat] at h
theorem flats_rep {S' : Sto} {H' : List Blk} {pl' : Pl} : (cs : List AV) → ∀ {us : List Value}, AV.flats cs = true → Cs (Rep S H pl) cs us → Cs (RepV S') cs us
  | [], us, _, k => by rw [k.nil_inv]; exact Cs.nil
  | x :: cs, us, h, k => by
    obtain ⟨u, us', rfl, hx, kc⟩ := k.tail
    simp [AV.flats] at h
    exact Cs.cons (flat_rep (H' := H') (pl' := pl') x h.1 hx) (flats_rep (H' := H') (pl' := pl') cs h.2 kc)
end
mutual
theorem flo_rep {S' : Sto} : (x : AV) → ∀ {u : Value}, AV.flo x = true → Rep S H pl x u → Rep S' H pl x u
  | .v _, u, _, r => by rw [r.v_inv]; exact .val _ _ (.v _)
  | .any, u, _, r => .val _ _ (.any _)
  | .own id ver, u, _, r => by
    cases r with
    | val _ _ r => cases r
    | own _ _ _ a b c => exact .own _ _ _ a b c
  | .agg cs, u, h, r => by
    obtain ⟨us, rfl, k⟩ := r.agg_inv
    have := flos_rep (S' := S') cs (by simpa [AV.flo] using h) k
    exact .agg _ _ this.1 this.2
  | .tup cs, u, h, r => by
    obtain ⟨us, rfl, k⟩ := r.tup_inv
    have := flos_rep (S' := S') cs (by simpa [AV.flo] using h) k
    exact .tup _ _ this.1 this.2
  | .ifc t x, u, h, r => by
    obtain ⟨v, rfl, k⟩ := r.ifc_inv
    exact .ifc t x v (flo_rep (S' := S') x (by simpa [AV.flo] using h) k)
  | .lst _ _ _ _, u, h, _ => by simp [AV.flo] at h
  | .z _ _, u, _, r => by cases r; rename_i r; cases r <;> first | exact .val _ _ (.znil _ _) | exact .val _ _ (.zsome _ _)
  | .ept _, u, h, _ => by simp [AV.flo] at h
  | .gpt _ _ _ _, u, h, _ => by simp [AV.flo] at h
  | .ptr _ _, u, h, _ => by simp [AV.flo] at h
  | .fn _ _, u, h, _ => by simp [AV.flo] at h
theorem flos_rep {S' : Sto} : (cs : List AV) → ∀ {us : List Value}, AV.flos cs = true → Cs (Rep S H pl) cs us → Cs (Rep S' H pl) cs us
  | [], us, _, k => by rw [k.nil_inv]; exact Cs.nil
  | x :: cs, us, h, k => by
    obtain ⟨u, us', rfl, hx, kc⟩ := k.tail
    simp [AV.flos] at h
    exact Cs.cons (flo_rep (S' := S') x h.1 hx) (flos_rep (S' := S') cs h.2 kc)
end

theorem HRel.lt (h : HRel B S H pl w) {k b : Nat} (l : live H pl k b) : B ≤ b ∧ b < w.heap.size := by
  obtain ⟨⟨x, hx, hl⟩, c, hc⟩ := l
  cases x with
  | dead => exact hl.elim
  | var cs =>
    obtain ⟨b', c', us, t, hp, hb, hh, _⟩ := h.var k cs hx
    rw [hc] at hp
    obtain ⟨rfl, rfl⟩ := Prod.mk.inj (Option.some.inj hp)
    exact ⟨hb, (Array.getElem?_eq_some_iff.1 hh).1⟩
  | grow e sz ver bv es =>
    obtain ⟨_, _, _, _, xs, ho, _⟩ := h.grow k e sz ver bv es hx
    exact ho.lt b (by rw [slv_some, hc]; rfl)

open Classical in
/-- What never turns while own memory is lent. -/
noncomputable def lend (S : Sto) (H : List Blk) (pl : Pl) (w : World) : Sto := fun a => if ∃ k, live H pl k a.block then w.cell? a else S a
theorem lend_le (h : WRel G B w0 S H pl w) : S.le (lend S H pl w) := fun a u e => by
  unfold lend
  rw [if_neg (fun ⟨k, l⟩ => h.h.sep a u e k l)]
  exact e
theorem lend_imm (h : WRel G B w0 S H pl w) : ∀ a u, lend S H pl w a = some u → w.cell? a = some u := fun a u e => by
  unfold lend at e
  split at e
  · exact e
  · exact h.imm a u e

mutual
theorem val_rep (h : WRel G B w0 S H pl w) : (x : AV) → ∀ {y : AV} {u : Value}, AV.val H x = some y → Rep S H pl x u → RepV (lend S H pl w) y u
  | .any, y, u, e, _ => by simp [AV.val] at e; subst e; exact .any u
  | .v x, y, u, e, r => by simp [AV.val] at e; subst e; rw [r.v_inv]; exact .v x
  | .lst _ _ _ _, y, u, e, r => by simp only [AV.val, Option.some.injEq] at e; subst e; cases r; rename_i r; exact r.mono (lend_le h)
  | .z _ _, y, u, e, r => by
    simp only [AV.val, Option.some.injEq] at e
    subst e
    cases r
    rename_i r
    cases r with
    | znil => exact .nil _ _
    | zsome _ a => exact .lst _ _ _ _ a _ (fun _ _ => undef) (Nat.le_refl _) (Nat.le_refl _) (fun i hi => by omega) (fun i j hi => by omega) (fun i j x hi => by omega) (fun i j hi => by omega)
  | .ept _, y, u, e, r => by simp only [AV.val, Option.some.injEq] at e; subst e; cases r; rename_i r; exact r.mono (lend_le h)
  | .gpt _ _ _ _, y, u, e, r => by simp [AV.val] at e
  | .ptr _ _, y, u, e, r => by simp [AV.val] at e
  | .agg cs, y, u, e, r => by
    obtain ⟨us, rfl, k⟩ := r.agg_inv
    simp only [AV.val] at e
    cases hp : AV.vals H cs with
    | none => simp [hp] at e
    | some ds =>
      simp [hp] at e; subst e
      have := vals_rep h cs hp k
      exact .agg ds us this.1 this.2
  | .tup cs, y, u, e, r => by
    obtain ⟨us, rfl, k⟩ := r.tup_inv
    simp only [AV.val] at e
    cases hp : AV.vals H cs with
    | none => simp [hp] at e
    | some ds =>
      simp [hp] at e; subst e
      have := vals_rep h cs hp k
      exact .tup ds us this.1 this.2
  | .fn f cs, y, u, e, r => by
    obtain ⟨us, rfl, k⟩ := r.fn_inv
    simp only [AV.val] at e
    cases hp : AV.vals H cs with
    | none => simp [hp] at e
    | some ds =>
      simp [hp] at e; subst e
      have := vals_rep h cs hp k
      exact .fn f ds us this.1 this.2
  | .ifc t x, y, u, e, r => by
    obtain ⟨v, rfl, k⟩ := r.ifc_inv
    simp only [AV.val] at e
    cases hp : AV.val H x with
    | none => simp [hp] at e
    | some z => simp [hp] at e; subst e; exact .ifc t z v (val_rep h x hp k)
  | .own id ver, y, u, e, r => by
    simp only [AV.val] at e
    cases hH : H[id]? with
    | none => simp [hH] at e
    | some blk =>
      cases blk with
      | var cs => simp [hH] at e
      | dead => simp [hH] at e
      | grow e' sz ver' bv es =>
        cases bv with
        | false => simp [hH] at e
        | true =>
          simp only [hH] at e
          split at e
          · rename_i hv
            subst hv
            obtain rfl := Option.some.inj e
            obtain ⟨h0, hl, hn, hb, xs, ho, hc, h1⟩ := h.h.grow id _ _ _ _ _ hH
            have hu : u = slv (pl id) es.length := by
              cases r with
              | val _ _ r => cases r
              | own _ _ _ hi h1 k => exact (k _ _ _ _ _ hH).2 rfl
            subst hu
            cases hp : pl id with
            | none =>
              obtain rfl := hn hp
              exact .nil _ _
            | some bc =>
              obtain ⟨b, cap⟩ := bc
              have hlv : ∃ k, live H pl k b := ⟨id, ⟨_, hH, trivial⟩, cap, hp⟩
              have hcap : es.length ≤ cap := by
                rcases ho.2 with ⟨hq, hz⟩ | ⟨g, cap', cur, hq, _, _, hle, _⟩
                · rw [hz]; exact Nat.zero_le _
                · rw [hp] at hq; simp [slv] at hq; rw [hq.2]; exact hle
              have hcell : ∀ i j, i < es.length → j < sz → w.cell? ⟨b, i * sz + j, none⟩ = some (xs.getD (i * sz + j) undef) := fun i j hi hj => by
                have hlt : i * sz + j < xs.length := by
                  rw [ho.1]
                  calc i * sz + j < i * sz + sz := by omega
                    _ = (i + 1) * sz := by rw [Nat.add_mul]; omega
                    _ ≤ es.length * sz := Nat.mul_le_mul_right _ hi
                have := ho.cells (g := b) (by rw [slv_some, hp]; rfl) (i * sz + j) _ (List.getElem?_eq_getElem hlt)
                rw [Addr.add_lit, Nat.zero_add] at this
                rw [this]
                simp [List.getD, List.getElem?_eq_getElem hlt]
              refine .lst sz es.length es.length _ ⟨b, 0, none⟩ cap (fun i j => xs.getD (i * sz + j) undef) (Nat.le_refl _) hcap (fun i hi => ?_) (fun i j hi hj => ?_) (fun i j x hi hx => ?_) (fun i j hi hj => ?_)
              · have : es[i]? = some es[i] := List.getElem?_eq_getElem hi
                simp only [List.getD, this, Option.getD_some]
                exact hl _ (List.mem_of_getElem? this)
              · rw [Addr.add_lit, Nat.zero_add]
                unfold lend
                rw [if_pos hlv]
                exact hcell i j hi hj
              · have hei : es[i]? = some es[i] := List.getElem?_eq_getElem hi
                simp only [List.getD, hei, Option.getD_some] at hx
                have hmem := List.mem_of_getElem? hei
                have hj : j < sz := by rw [← hl _ hmem]; exact (List.getElem?_eq_some_iff.1 hx).1
                have hel := (hc.drop (i * sz)).take sz
                rw [flat_get es sz i _ hl hei] at hel
                have hxs : ((xs.drop (i * sz)).take sz)[j]? = some (xs.getD (i * sz + j) undef) := by
                  have hlt : i * sz + j < xs.length := by
                    rw [ho.1]
                    calc i * sz + j < i * sz + sz := by omega
                      _ = (i + 1) * sz := by rw [Nat.add_mul]; omega
                      _ ≤ es.length * sz := Nat.mul_le_mul_right _ hi
                  rw [List.getElem?_take, if_pos hj, List.getElem?_drop, List.getElem?_eq_getElem hlt]
                  simp [List.getD, List.getElem?_eq_getElem hlt]
                exact ((hbs_val _ (hb rfl _ hmem) hel).2 j x _ hx hxs).mono (lend_le h)
              · have hlt : i * sz + j < xs.length := by
                  rw [ho.1]
                  calc i * sz + j < i * sz + sz := by omega
                    _ = (i + 1) * sz := by rw [Nat.add_mul]; omega
                    _ ≤ es.length * sz := Nat.mul_le_mul_right _ hi
                refine h1 _ ?_
                simp only [List.getD, List.getElem?_eq_getElem hlt, Option.getD_some]
                exact List.getElem_mem hlt
          · cases e
theorem vals_rep (h : WRel G B w0 S H pl w) : (cs : List AV) → ∀ {ds : List AV} {us : List Value}, AV.vals H cs = some ds → Cs (Rep S H pl) cs us → Cs (RepV (lend S H pl w)) ds us
  | [], ds, us, e, k => by simp [AV.vals] at e; subst e; rw [k.nil_inv]; exact Cs.nil
  | x :: cs, ds, us, e, k => by
    obtain ⟨u, us', rfl, hx, kc⟩ := k.tail
    simp only [AV.vals] at e
    cases hp : AV.val H x with
    | none => simp [hp] at e
    | some y =>
      cases hq : AV.vals H cs with
      | none => simp [hp, hq] at e
      | some ys => simp [hp, hq] at e; subst e; exact Cs.cons (val_rep h x hp hx) (vals_rep h cs hq kc)
end

mutual
/-- By value already: as it stands. -/
theorem hb_weak {S' : Sto} : (x : AV) → ∀ {y : AV} {u : Value}, AV.hb 0 x = true → AV.val H x = some y → RepV S' x u → RepV S' y u
  | .any, y, u, _, e, r => by simp only [AV.val, Option.some.injEq] at e; subst e; exact r
  | .v _, y, u, _, e, r => by simp only [AV.val, Option.some.injEq] at e; subst e; exact r
  | .lst _ _ _ _, y, u, _, e, r => by simp only [AV.val, Option.some.injEq] at e; subst e; exact r
  | .ept _, y, u, _, e, r => by simp only [AV.val, Option.some.injEq] at e; subst e; exact r
  | .z _ _, y, u, _, e, r => by
    simp only [AV.val, Option.some.injEq] at e
    subst e
    cases r with
    | znil => exact .nil _ _
    | zsome _ a => exact .lst _ _ _ _ a _ (fun _ _ => undef) (Nat.le_refl _) (Nat.le_refl _) (fun i hi => by omega) (fun i j hi => by omega) (fun i j x hi => by omega) (fun i j hi => by omega)
  | .own _ _, y, u, h, _, _ => by simp [AV.hb] at h
  | .gpt _ _ _ _, y, u, h, _, _ => by simp [AV.hb] at h
  | .ptr _ _, y, u, h, _, _ => by simp [AV.hb] at h
  | .agg cs, y, u, h, e, r => by
    simp only [AV.val] at e
    cases hp : AV.vals H cs with
    | none => simp [hp] at e
    | some ds =>
      simp [hp] at e
      subst e
      cases r with
      | agg _ us hl k => have := hbs_weak cs (by simpa [AV.hb] using h) hp ⟨hl, k⟩; exact .agg _ _ this.1 this.2
  | .tup cs, y, u, h, e, r => by
    simp only [AV.val] at e
    cases hp : AV.vals H cs with
    | none => simp [hp] at e
    | some ds =>
      simp [hp] at e
      subst e
      cases r with
      | tup _ us hl k => have := hbs_weak cs (by simpa [AV.hb] using h) hp ⟨hl, k⟩; exact .tup _ _ this.1 this.2
  | .fn f cs, y, u, h, e, r => by
    simp only [AV.val] at e
    cases hp : AV.vals H cs with
    | none => simp [hp] at e
    | some ds =>
      simp [hp] at e
      subst e
      cases r with
      | fn _ _ us hl k => have := hbs_weak cs (by simpa [AV.hb] using h) hp ⟨hl, k⟩; exact .fn _ _ _ this.1 this.2
  | .ifc t x, y, u, h, e, r => by
    simp only [AV.val] at e
    cases hp : AV.val H x with
    | none => simp [hp] at e
    | some d =>
      simp [hp] at e
      subst e
      cases r with
      | ifc _ _ v k => exact .ifc t _ v (hb_weak x (by simpa [AV.hb] using h) hp k)
theorem hbs_weak {S' : Sto} : (cs : List AV) → ∀ {ds : List AV} {us : List Value}, AV.hbs 0 cs = true → AV.vals H cs = some ds → Cs (RepV S') cs us → Cs (RepV S') ds us
  | [], ds, us, _, e, k => by simp [AV.vals] at e; subst e; exact k
  | x :: cs, ds, us, h, e, k => by
    obtain ⟨u, us', rfl, hx, kc⟩ := k.tail
    simp [AV.hbs] at h
    simp only [AV.vals] at e
    cases hp : AV.val H x with
    | none => simp [hp] at e
    | some y =>
      cases hq : AV.vals H cs with
      | none => simp [hp, hq] at e
      | some ys => simp [hp, hq] at e; subst e; exact Cs.cons (hb_weak x h.1 hp hx) (hbs_weak cs h.2 hq kc)
end

/-- Where the joined memory lies. -/
def joinPl (n : Nat) (pl plr : Pl) : Pl := fun k => if k < n then pl k else plr (k - n)

theorem joinPl_new (n j : Nat) (pl plr : Pl) : joinPl n pl plr (n + j) = plr j := by unfold joinPl; rw [if_neg (by omega), Nat.add_sub_cancel_left]

theorem join_old {Hr : List Blk} {k : Nat} (hk : k < H.length) : (H ++ Hr)[k]? = H[k]? := List.getElem?_append_left hk
theorem join_ext {S' : Sto} {Hr : List Blk} {plr : Pl} (hS : S.le S') (hnew : ∀ a u, S' a = some u → S a = some u ∨ B ≤ a.block) : Ext B S H pl S' (H ++ Hr) (joinPl H.length pl plr) :=
  ⟨hnew, hS, by simp, fun k cs hk e => ⟨cs, by rwa [join_old hk] at e, by simp [joinPl, hk]⟩, fun k e sz ver bv es hk q => ⟨e, ver, bv, es, by rwa [join_old hk] at q, Nat.le_refl _, fun _ => ⟨rfl, by simp [joinPl, hk]⟩⟩⟩

theorem shift_blk {Hr : List Blk} {k : Nat} {x : Blk} (h : (H ++ Hr.map (Blk.shift H.length))[H.length + k]? = some x) : ∃ y, Hr[k]? = some y ∧ x = y.shift H.length := by
  rw [List.getElem?_append_right (by omega), Nat.add_sub_cancel_left, List.getElem?_map] at h
  cases hy : Hr[k]? with
  | none => simp [hy] at h
  | some y => simp [hy] at h; exact ⟨y, rfl, h.symm⟩

mutual
theorem shift_rep {S' : Sto} {Hr : List Blk} {plr : Pl} : (x : AV) → ∀ {u : Value}, Rep S' Hr plr x u → Rep S' (H ++ Hr.map (Blk.shift H.length)) (joinPl H.length pl plr) (x.shift H.length) u
  | .any, u, r => .val _ _ (.any u)
  | .v x, u, r => by rw [r.v_inv]; exact .val _ _ (.v x)
  | .lst _ _ _ _, u, r => by cases r; exact .val _ _ (by assumption)
  | .z _ _, u, r => by cases r; exact .val _ _ (by assumption)
  | .ept _, u, r => by cases r; exact .val _ _ (by assumption)
  | .own id ver, u, r => by
    cases r with
    | val _ _ r => cases r
    | own _ _ _ hi h1 k =>
      refine .own _ _ _ (by simp; omega) h1 fun e sz v bv es q => ?_
      rw [Nat.add_comm] at q ⊢
      obtain ⟨y, hy, hq⟩ := shift_blk q
      cases y <;> simp [Blk.shift] at hq
      obtain ⟨rfl, rfl, rfl, rfl, rfl⟩ := hq
      obtain ⟨k1, k2⟩ := k _ _ _ _ _ hy
      refine ⟨k1, fun hv => ?_⟩
      rw [k2 hv]
      simp only [joinPl, if_neg (show ¬ H.length + id < H.length by omega), Nat.add_sub_cancel_left]
      split <;> simp
  | .gpt id ver i off, u, r => by
    cases r with
    | val _ _ r => cases r
    | gpt _ _ _ _ _ hi h1 k =>
      refine .gpt _ _ _ _ _ (by simp; omega) h1 fun e sz v bv es q => ?_
      rw [Nat.add_comm] at q ⊢
      obtain ⟨y, hy, hq⟩ := shift_blk q
      cases y <;> simp [Blk.shift] at hq
      obtain ⟨rfl, rfl, rfl, rfl, rfl⟩ := hq
      obtain ⟨k1, k2⟩ := k _ _ _ _ _ hy
      refine ⟨k1, fun hv => ?_⟩
      obtain ⟨b, c, hp, hu⟩ := k2 hv
      exact ⟨b, c, by simp only [joinPl, if_neg (show ¬ H.length + id < H.length by omega), Nat.add_sub_cancel_left]; exact hp, hu⟩
  | .ptr id off, u, r => by
    cases r with
    | val _ _ r => cases r
    | ptr _ _ _ hi h1 k =>
      refine .ptr _ _ _ (by simp; omega) h1 fun cs q => ?_
      rw [Nat.add_comm] at q ⊢
      obtain ⟨y, hy, hq⟩ := shift_blk q
      cases y <;> simp [Blk.shift] at hq
      obtain ⟨b, c, hp, hu⟩ := k _ hy
      exact ⟨b, c, by simp only [joinPl, if_neg (show ¬ H.length + id < H.length by omega), Nat.add_sub_cancel_left]; exact hp, hu⟩
  | .agg cs, u, r => by
    obtain ⟨us, rfl, k⟩ := r.agg_inv
    have := shifts_rep cs k
    exact .agg _ us this.1 this.2
  | .tup cs, u, r => by
    obtain ⟨us, rfl, k⟩ := r.tup_inv
    have := shifts_rep cs k
    exact .tup _ us this.1 this.2
  | .fn f cs, u, r => by
    obtain ⟨us, rfl, k⟩ := r.fn_inv
    have := shifts_rep cs k
    exact .fn f _ us this.1 this.2
  | .ifc t x, u, r => by
    obtain ⟨v, rfl, k⟩ := r.ifc_inv
    exact .ifc t _ v (shift_rep x k)
theorem shifts_rep {S' : Sto} {Hr : List Blk} {plr : Pl} : (cs : List AV) → ∀ {us : List Value}, Cs (Rep S' Hr plr) cs us → Cs (Rep S' (H ++ Hr.map (Blk.shift H.length)) (joinPl H.length pl plr)) (AV.shifts H.length cs) us
  | [], us, k => by rw [k.nil_inv]; exact Cs.nil
  | x :: cs, us, k => by
    obtain ⟨u, us', rfl, hx, kc⟩ := k.tail
    exact Cs.cons (shift_rep x hx) (shifts_rep cs kc)
end

theorem shifts_length (n : Nat) : ∀ cs : List AV, (AV.shifts n cs).length = cs.length
  | [] => rfl
  | x :: cs => by simp [AV.shifts, shifts_length n cs]
theorem shifts_append (n : Nat) : ∀ cs ds : List AV, AV.shifts n (cs ++ ds) = AV.shifts n cs ++ AV.shifts n ds
  | [], ds => rfl
  | x :: cs, ds => by simp [AV.shifts, shifts_append n cs ds]
theorem shifts_flatten (n : Nat) : ∀ es : List (List AV), (es.map (AV.shifts n)).flatten = AV.shifts n es.flatten
  | [] => rfl
  | c :: es => by simp [shifts_append, shifts_flatten n es]

theorem live_join {S' : Sto} {Hr : List Blk} {plr : Pl} {k b : Nat} (l : live (H ++ Hr.map (Blk.shift H.length)) (joinPl H.length pl plr) k b) : (k < H.length ∧ live H pl k b) ∨ ∃ j, k = H.length + j ∧ live Hr plr j b := by
  obtain ⟨⟨x, hx, hl⟩, c, hc⟩ := l
  by_cases hk : k < H.length
  · refine .inl ⟨hk, ⟨x, by rwa [join_old hk] at hx, hl⟩, c, by simpa [joinPl, hk] using hc⟩
  · obtain ⟨j, rfl⟩ : ∃ j, k = H.length + j := ⟨k - H.length, by omega⟩
    obtain ⟨y, hy, rfl⟩ := shift_blk hx
    refine .inr ⟨j, rfl, ⟨y, hy, ?_⟩, c, ?_⟩
    · cases y <;> simp_all [Blk.shift, Blk.lives]
    · rwa [joinPl_new] at hc

theorem HRel.frame (h : HRel B S H pl w) {w' : World} (hb : Below w.heap.size w w') {S' : Sto} (hS : S.le S') (hsep : ∀ a u, S' a = some u → a.block < w.heap.size → S a = some u) : HRel B S' H pl w' := by
  have hE : Ext 0 S H pl S' H pl := ⟨fun a u _ => .inr (Nat.zero_le _), hS, Nat.le_refl _, fun k cs hk e => ⟨cs, e, rfl⟩, fun k e sz ver bv es hk q => ⟨e, ver, bv, es, q, Nat.le_refl _, fun _ => ⟨rfl, rfl⟩⟩⟩
  refine ⟨fun k cs e => ?_, fun k e sz ver bv es q => ?_, h.apart, fun a u e k l => ?_⟩
  · obtain ⟨b, c, us, t, hp, hB, hh, hc, h1⟩ := h.var k cs e
    exact ⟨b, c, us, t, hp, hB, by rw [hb.block b (Array.getElem?_eq_some_iff.1 hh).1]; exact hh, hc.mono fun x u r => r.mono hE, h1⟩
  · obtain ⟨h0, hl, hn, hbv, xs, ho, hc, h1⟩ := h.grow k e sz ver bv es q
    refine ⟨h0, hl, hn, hbv, xs, ⟨ho.1, ?_⟩, hc.mono fun x u r => r.mono hE, h1⟩
    rcases ho.2 with ho | ⟨g, cap, cur, hv, hB, hg, r⟩
    · exact .inl ho
    · exact .inr ⟨g, cap, cur, hv, hB, by rw [hb.block g (Array.getElem?_eq_some_iff.1 hg).1]; exact hg, r⟩
  · exact h.sep a u (hsep a u e (h.lt l).2) k l

/-- What came back joined to own memory. -/
theorem WRel.join (h : WRel G B w0 S H pl w) {S' : Sto} {Hr : List Blk} {plr : Pl} {w' : World} (hS : S.le S') (hsep : ∀ a u, S' a = some u → a.block < w.heap.size → S a = some u) (hr : WRel G w.heap.size w S' Hr plr w') :
    WRel G B w0 S' (H ++ Hr.map (Blk.shift H.length)) (joinPl H.length pl plr) w' := by
  have hF := h.h.frame hr.below hS hsep
  refine ⟨⟨fun k cs e => ?_, fun k e sz ver bv es q => ?_, fun k k' b l l' => ?_, fun a u e k l => ?_⟩, hr.imm, h.below.trans (hr.below.mono h.base), Nat.le_trans h.base hr.below.size, hr.g⟩
  · by_cases hk : k < H.length
    · rw [join_old hk] at e
      obtain ⟨b, c, us, t, hp, hB, hh, hc, h1⟩ := hF.var k cs e
      have hE' : Ext 0 S' H pl S' (H ++ Hr.map (Blk.shift H.length)) (joinPl H.length pl plr) := join_ext S'.le_refl fun a u e => .inl e
      exact ⟨b, c, us, t, by simpa [joinPl, hk] using hp, hB, hh, hc.mono fun x u r => r.mono hE', h1⟩
    · obtain ⟨j, rfl⟩ : ∃ j, k = H.length + j := ⟨k - H.length, by omega⟩
      obtain ⟨y, hy, hq⟩ := shift_blk e
      cases y <;> simp [Blk.shift] at hq
      subst hq
      obtain ⟨b, c, us, t, hp, hB, hh, hc, h1⟩ := hr.h.var j _ hy
      exact ⟨b, c, us, t, by rw [joinPl_new]; exact hp, Nat.le_trans h.base hB, hh, shifts_rep _ hc, h1⟩
  · by_cases hk : k < H.length
    · rw [join_old hk] at q
      obtain ⟨h0, hl, hn, hbv, xs, ho, hc, h1⟩ := hF.grow k e sz ver bv es q
      have hE' : Ext 0 S' H pl S' (H ++ Hr.map (Blk.shift H.length)) (joinPl H.length pl plr) := join_ext S'.le_refl fun a u e => .inl e
      have hpk : joinPl H.length pl plr k = pl k := by simp [joinPl, hk]
      exact ⟨h0, hl, by rw [hpk]; exact hn, hbv, xs, by rw [hpk]; exact ho, hc.mono fun x u r => r.mono hE', h1⟩
    · obtain ⟨j, rfl⟩ : ∃ j, k = H.length + j := ⟨k - H.length, by omega⟩
      obtain ⟨y, hy, hq⟩ := shift_blk q
      cases y <;> simp [Blk.shift] at hq
      rename_i e' sz' ver' bv' es'
      obtain ⟨rfl, rfl, rfl, rfl, rfl⟩ := hq
      obtain ⟨h0, hl, hn, hbv, xs, ho, hc, h1⟩ := hr.h.grow j _ _ _ _ _ hy
      have hpk : joinPl H.length pl plr (H.length + j) = plr j := joinPl_new _ _ _ _
      rw [hpk]
      have ho' : w'.ownsRow B e sz (slv (plr j) es'.length) es'.length xs := by
        refine ⟨ho.1, ?_⟩
        rcases ho.2 with ho | ⟨g, cap, cur, hv, hB, hg, r⟩
        · exact .inl ho
        · exact .inr ⟨g, cap, cur, hv, Nat.le_trans h.base hB, hg, r⟩
      cases bv with
      | true =>
        have hcv : Cs (Rep S' (H ++ Hr.map (Blk.shift H.length)) (joinPl H.length pl plr)) es'.flatten xs :=
          ⟨hc.1, fun i x u hx hu => by
            have hm := List.mem_of_getElem? hx
            obtain ⟨c, hcm, hxc⟩ := List.mem_flatten.1 hm
            obtain ⟨m, hm⟩ := List.mem_iff_getElem?.1 hxc
            have hhb : ∀ (c : List AV), AV.hbs 0 c = true → ∀ x ∈ c, AV.hb 0 x = true := by
              intro c
              induction c with
              | nil => intro _ x hx; cases hx
              | cons y c ih =>
                intro hc x hx
                simp [AV.hbs] at hc
                rcases List.mem_cons.1 hx with rfl | hx
                · exact hc.1
                · exact ih hc.2 x hx
            exact .val _ _ (hb_val x (hhb c (hbv rfl c hcm) x hxc) (hc.2 i x u hx hu))⟩
        rw [if_pos (rfl : true = true)]
        exact ⟨h0, hl, hn, hbv, xs, ho', hcv, h1⟩
      | false =>
        rw [if_neg (by decide : ¬ (false = true))]
        refine ⟨h0, fun c hcm => ?_, (fun hp => by simp [hn hp]), (fun hx => absurd hx (by decide)), xs, by simpa using ho', by rw [shifts_flatten]; exact shifts_rep _ hc, h1⟩
        obtain ⟨d, hd, rfl⟩ := List.mem_map.1 hcm
        rw [shifts_length]
        exact hl d hd
  · rcases live_join (S' := S') l with ⟨hk, m⟩ | ⟨j, rfl, m⟩ <;> rcases live_join (S' := S') l' with ⟨hk', m'⟩ | ⟨j', rfl, m'⟩
    · exact h.h.apart k k' b m m'
    · have h1 := (h.h.lt m).2
      have h2 := (hr.h.lt m').1
      omega
    · have h1 := (h.h.lt m').2
      have h2 := (hr.h.lt m).1
      omega
    · rw [hr.h.apart j j' b m m']
  · rcases live_join (S' := S') l with ⟨hk, m⟩ | ⟨j, rfl, m⟩
    · exact hF.sep a u e k m
    · exact hr.h.sep a u e j m

/-- Plain results hang on nothing that was lent. -/
theorem WRel.unlend {S1 : Sto} {Hr : List Blk} {plr : Pl} {w' : World} (h : WRel G B w0 S H pl w) (hf : Hr.all Blk.flat = true) (hr : WRel G w.heap.size w S1 Hr plr w') : WRel G w.heap.size w S Hr plr w' := by
  have hfl : ∀ (k : Nat) e sz ver bv es, Hr[k]? = some (.grow e sz ver bv es) → ∀ c ∈ es, AV.flats c = true := fun k e sz ver bv es hk c hc => by
    have := List.all_eq_true.1 hf _ (List.mem_of_getElem? hk)
    simp only [Blk.flat] at this
    exact List.all_eq_true.1 this c hc
  have hmem : ∀ (c : List AV), AV.flats c = true → ∀ x ∈ c, AV.flat x = true := by
    intro c
    induction c with
    | nil => intro _ x hx; cases hx
    | cons y c ih =>
      intro hc x hx
      simp [AV.flats] at hc
      rcases List.mem_cons.1 hx with rfl | hx
      · exact hc.1
      · exact ih hc.2 x hx
  refine ⟨⟨fun k cs e => ?_, fun k e sz ver bv es q => ?_, hr.h.apart, fun a u e k l => ?_⟩, fun a u e => ?_, hr.below, hr.base, hr.g⟩
  · have := List.all_eq_true.1 hf _ (List.mem_of_getElem? e)
    simp [Blk.flat] at this
  · obtain ⟨h0, hl, hn, hbv, xs, ho, hc, h1⟩ := hr.h.grow k e sz ver bv es q
    refine ⟨h0, hl, hn, hbv, xs, ho, ⟨hc.1, fun i x u hx hu => ?_⟩, h1⟩
    obtain ⟨c, hcm, hxc⟩ := List.mem_flatten.1 (List.mem_of_getElem? hx)
    exact .val _ _ (flat_rep (H' := Hr) (pl' := plr) x (hmem c (hfl k _ _ _ _ _ q c hcm) x hxc) (hc.2 i x u hx hu))
  · have h1 := (hr.h.lt l).1
    have h2 := World.block_lt_of_cell? w _ (h.imm a u e)
    omega
  · rw [hr.below.cell (World.block_lt_of_cell? w _ (h.imm a u e))]
    exact h.imm a u e

/-- What came back is taken by value: its own memory turns no more. -/
theorem WRel.freeze (hG : ∀ w', Below B w0 w' → G w') (h : WRel G B w0 S H pl w) {S' : Sto} {Hr : List Blk} {plr : Pl} {w' : World} (hS : S.le S') (hsep : ∀ a u, S' a = some u → a.block < w.heap.size → S a = some u) (hr : WRel G w.heap.size w S' Hr plr w') {x y : AV} {u : Value} (hx : Rep S' Hr plr x u) (e : AV.val Hr x = some y) :
    ∃ S2, Ext B S H pl S2 H pl ∧ WRel G B w0 S2 H pl w' ∧ RepV S2 y u := by
  have hS2 : S.le (lend S' Hr plr w') := Sto.le_trans hS (lend_le hr)
  have hnew : ∀ a v, lend S' Hr plr w' a = some v → a.block < w.heap.size → S a = some v := fun a v e hb => by
    unfold lend at e
    split at e
    · rename_i hl
      obtain ⟨k, l⟩ := hl
      have := (hr.h.lt l).1
      omega
    · exact hsep a v e hb
  refine ⟨lend S' Hr plr w', ⟨fun a v e => if hb : a.block < w.heap.size then .inl (hnew a v e hb) else .inr (Nat.le_trans h.base (Nat.le_of_not_lt hb)), hS2, Nat.le_refl _, fun k cs hk e => ⟨cs, e, rfl⟩, fun k e sz ver bv es hk q => ⟨e, ver, bv, es, q, Nat.le_refl _, fun _ => ⟨rfl, rfl⟩⟩⟩,
    ⟨h.h.frame hr.below hS2 hnew, lend_imm hr, h.below.trans (hr.below.mono h.base), Nat.le_trans h.base hr.below.size, hG _ (h.below.trans (hr.below.mono h.base))⟩, val_rep hr x e hx⟩
end
end Go.Proofs.YtalkodandfjkmaaDoor.Av

/- Each operation of the interpreter, held against the program's own. -/
set_option linter.unusedVariables false
set_option linter.unusedSimpArgs false
namespace Go.Proofs.YtalkodandfjkmaaDoor.Av
open Go Go.RowKit
variable {P : Program}

def kindOk : Nat → TypeDesc → Prop
  | 0, .int _ => True
  | 1, .bool => True
  | 2, .string => True
  | _, _ => False
/-- The fields of a struct that is compared, each of one cell: their kinds. -/
def EqFlds (P : Program) : Nat → List Field → List Nat → Prop
  | _, [], [] => True
  | k, f :: fs, x :: xs => f.offset = k ∧ f.name ≠ "_" ∧ (∃ d, P.underlying f.type = some d ∧ kindOk x d) ∧ EqFlds P (k + 1) fs xs
  | _, _, _ => False

structure CtxOk (P : Program) (C : Ctx) (G : World → Prop) : Prop where
  td : TdOk P C
  m : ∀ n m, C.m n = some m → Models P G n m ∧ ∃ fn, P.funcs[n]? = some fn ∧ fn.body.isSome = true ∧ (fn.name == "runtime.NumGoroutine") = false
  eqs : ∀ t, C.eqs t ≠ [] → P.eqGuardType P.depth t = false ∧ P.stoodInHeld t = false ∧ ∃ flds, P.underlying t = some (.struct flds) ∧ EqFlds P 0 flds.toList (C.eqs t)
  fn : ∀ n fn, C.fn n = some fn → P.funcs[n]? = some fn ∧ fn.body.isSome = true ∧ (fn.name == "runtime.NumGoroutine") = false

section
variable {S : Sto} {H : List Blk} {pl : Pl} {G : World → Prop} {B : Nat} {w0 w : World} {C : Ctx}

theorem exec_call {r : Operand → Value} {o : Oper} {c : Call} {f : Operand} {n : Nat} {caps : Array Value} {fn : Func} (ho : o.op = .call c) (hc : c.callee = .value f) (hf : r f = .func (.func n) #[] caps)
    (hn : P.funcs[n]? = some fn) (hb : fn.body.isSome = true) (hname : (fn.name == "runtime.NumGoroutine") = false) : (execOp r o).run P w = .ok (.enter n (c.args.map r ++ caps)) w := by
  have hb' : fn.body.isNone = false := by cases h : fn.body <;> simp_all
  have h1 : fn.name ≠ "runtime.NumGoroutine" := by simpa using hname
  have h2 : fn.body ≠ none := fun e => by simp [e] at hb
  simp [execOp, ho, resolve, hc, hf, Deferred.ofValue, invoke, callFunc, hn, h1, h2, go_sem]

theorem evs_args {tmps : List AV} {a : Act} (ht : TRel S H pl tmps a) (xs : List Operand) : Cs (Rep S H pl) (xs.map (evA tmps)) (xs.map a.eval) :=
  ⟨by simp, fun j x u hx hu => by
    rw [List.getElem?_map] at hx hu
    cases hj : xs[j]? with
    | none => simp [hj] at hx
    | some y => simp [hj] at hx hu; subst hx; subst hu; exact ht.ev y⟩

/-- A call by a summary: what it leaves. -/
theorem call_any {tmps : List AV} {a : Act} {o : Oper} {c : Call} {f : Operand} {n : Nat} {caps : List AV} {m : List AV → Option (AV × List Blk)} {as : List AV} {x : AV} {Hr : List Blk}
    (hK : CtxOk P C G) (ht : TRel S H pl tmps a) (h : WRel G B w0 S H pl w) (ho : o.op = .call c) (hc : c.callee = .value f) (hf : evA tmps f = .fn n caps) (hm : C.m n = some m)
    (ha : AV.vals H (c.args.toList.map (evA tmps) ++ caps) = some as) (hr : m as = some (x, Hr)) (hflat : ((x.flo && Hr.all Blk.flat) || AV.hbs 0 (c.args.toList.map (evA tmps) ++ caps)) = true)
    (next : Act → World → Prop) (Q : Exit → Act → World → Prop)
    (k : ∀ u S' plr w', S.le S' → (∀ a u, S' a = some u → a.block < w.heap.size → S a = some u) → WRel G w.heap.size w S' Hr plr w' → Rep S' Hr plr x u → next (a.put o.dst u) w') : o.wp P a w next Q := by
  obtain ⟨hM, fn, hn, hb, hname⟩ := hK.m n m hm
  have hff := ht.ev f
  rw [hf] at hff
  obtain ⟨us, hu, hcap⟩ := hff.fn_inv
  have hargs := (evs_args ht c.args.toList).append hcap
  unfold Oper.wp
  rw [exec_call ho hc hu hn hb hname, Oper.upon_enter]
  have e1 : c.args.map a.eval ++ us.toArray = (c.args.toList.map a.eval ++ us).toArray := by
    rw [← List.append_toArray]
    congr 1
    rw [← List.map_toArray, Array.toArray_toList]
  rw [e1]
  by_cases hv : AV.hbs 0 (c.args.toList.map (evA tmps) ++ caps) = true
  · refine (hM S w _ _ x Hr (hbs_weak _ hv ha (hbs_val _ hv hargs)) h.imm h.g hr).mono ?_
    rintro e w' ⟨u, S', plr, rfl, hS, hsep, hW, hR⟩
    exact k u S' _ w' hS hsep hW hR
  · have hfl : (x.flo && Hr.all Blk.flat) = true := by simpa [hv] using hflat
    rw [Bool.and_eq_true] at hfl
    refine (hM (lend S H pl w) w _ _ x Hr (vals_rep h _ ha hargs) (lend_imm h) h.g hr).mono ?_
    rintro e w' ⟨u, S', plr, rfl, hS, hsep, hW, hR⟩
    have hW' := h.unlend hfl.2 hW
    exact k u S _ w' S.le_refl (fun _ _ e _ => e) hW' (flo_rep x hfl.1 hR)
theorem call_m {tmps : List AV} {a : Act} {o : Oper} {c : Call} {f : Operand} {n : Nat} {caps : List AV} {m : List AV → Option (AV × List Blk)} {as : List AV} {x : AV} {Hr : List Blk}
    (hK : CtxOk P C G) (ht : TRel S H pl tmps a) (h : WRel G B w0 S H pl w) (ho : o.op = .call c) (hc : c.callee = .value f) (hf : evA tmps f = .fn n caps) (hm : C.m n = some m)
    (ha : AV.vals H (c.args.toList.map (evA tmps) ++ caps) = some as) (hr : m as = some (x, Hr)) (hflat : ((x.flo && Hr.all Blk.flat) || AV.hbs 0 (c.args.toList.map (evA tmps) ++ caps)) = true) :
    OpW P G B w0 o a S H pl w (x.shift H.length) (H ++ Hr.map (Blk.shift H.length)) := fun next Q k =>
  call_any hK ht h ho hc hf hm ha hr hflat next Q fun u S' plr w' hS hsep hW hR => k u S' _ w' (join_ext hS fun a u e => if hb : a.block < w.heap.size then .inl (hsep a u e hb) else .inr (Nat.le_trans h.base (Nat.le_of_not_lt hb))) (h.join hS hsep hW) (shift_rep x hR)

theorem join_nil : H ++ ([] : List Blk).map (Blk.shift H.length) = H := by simp
mutual
theorem shift_hb (n : Nat) : (x : AV) → AV.hb 0 x = true → x.shift n = x
  | .any, _ => rfl
  | .v _, _ => rfl
  | .lst _ _ _ _, _ => rfl
  | .ept _, _ => rfl
  | .z _ _, _ => rfl
  | .own _ _, h => by simp [AV.hb] at h
  | .gpt _ _ _ _, h => by simp [AV.hb] at h
  | .ptr _ _, h => by simp [AV.hb] at h
  | .agg cs, h => by simp [AV.shift, shifts_hb n cs (by simpa [AV.hb] using h)]
  | .tup cs, h => by simp [AV.shift, shifts_hb n cs (by simpa [AV.hb] using h)]
  | .fn f cs, h => by simp [AV.shift, shifts_hb n cs (by simpa [AV.hb] using h)]
  | .ifc t x, h => by simp [AV.shift, shift_hb n x (by simpa [AV.hb] using h)]
theorem shifts_hb (n : Nat) : (cs : List AV) → AV.hbs 0 cs = true → AV.shifts n cs = cs
  | [], _ => rfl
  | x :: cs, h => by simp [AV.hbs] at h; simp [AV.shifts, shift_hb n x h.1, shifts_hb n cs h.2]
end

theorem idx_sound (hT : TdOk P C) (h : WRel G B w0 S H pl w) {t e sz by_ : Nat} (htd : C.td t = .sl e sz by_) {x y : AV} {i : Int} {k : IntKind} {u : Value} (hx : Rep S H pl x u) (he : idxA sz x i H = some y) :
    ∃ r, (Instr.indexAt t u (.int k i)).run P w = .ok r w ∧ Rep S H pl y r := by
  obtain ⟨hu, h0, ⟨ti, z, hi, hs, hby, hz, hzs⟩, _⟩ := hT.sl t e sz by_ htd
  have hel : P.elem t = e := by simp [Program.elem, hu]
  have hrun : ∀ (a : Addr) (n cap : Nat), 0 ≤ i → i < n → (Instr.indexAt t (.slice (some a) n cap) (.int k i)).run P w = .ok (.pointer (some (a.add (i.toNat * sz)))) w := fun a n cap hi0 hi1 => by
    rw [run_indexAt_slice (P := P) w t a n cap k i (by rw [hel]; exact hu), if_pos ⟨hi0, hi1⟩, hel]
    simp [sizeOf, typeInfo, hi, hs]
  cases x with
  | lst s n m get =>
    simp only [idxA] at he
    by_cases hss : s = sz
    case neg => simp [hss] at he
    subst hss
    rw [if_pos rfl] at he
    split at he
    · rename_i hin
      obtain rfl := Option.some.inj he
      cases hx with
      | val _ _ r =>
        cases r with
        | nil => simp at hin; omega
        | lst _ _ _ _ a cap f hnm hn hl hS hr h1 =>
          have hlt : i.toNat < m := by omega
          refine ⟨_, hrun a n cap hin.1 hin.2, .val _ _ (.ept _ _ (f i.toNat) (fun j hj => ?_) (fun j x hxj => hr _ j x hlt hxj))⟩
          rw [hl _ hlt] at hj
          rw [Addr.add_add]
          exact hS _ j hlt hj
    · cases he
  | own id ver =>
    simp only [idxA] at he
    cases hH : H[id]? with
    | none => simp [hH] at he
    | some blk =>
      cases blk with
      | var cs => simp [hH] at he
      | dead => simp [hH] at he
      | grow e' s ver' bv es =>
        simp only [hH] at he
        split at he
        · rename_i hv
          obtain ⟨rfl, rfl⟩ := hv
          split at he
          · rename_i hin
            obtain rfl := Option.some.inj he
            cases hx with
            | val _ _ r => cases r
            | own _ _ _ hi' _ hk =>
              have := (hk _ _ _ _ _ hH).2 rfl
              subst this
              cases hp : pl id with
              | none =>
                have := (h.h.grow id _ _ _ _ _ hH).2.2.1 hp
                subst this
                simp at hin
                omega
              | some bc =>
                obtain ⟨b, cap⟩ := bc
                refine ⟨_, hrun _ _ cap hin.1 hin.2, .gpt _ _ _ _ _ hi' rfl fun e2 s2 v2 bv2 es2 q => ?_⟩
                rw [hH] at q
                cases q
                refine ⟨Nat.le_refl _, fun _ => ⟨b, cap, hp, ?_⟩⟩
                rw [Addr.add_lit]
                simp
          · cases he
        · cases he
  | _ => simp [idxA] at he

theorem op_move {tmps : List AV} {a : Act} {o : Oper} {x : Operand} (ht : TRel S H pl tmps a) (h : WRel G B w0 S H pl w) (ho : o.op = .move x ∨ o.op = .assign x) : OpW P G B w0 o a S H pl w (evA tmps x) H :=
  .still h (by rcases ho with ho | ho <;> simp [execOp, ho]) (ht.ev x)
theorem op_pick {tmps : List AV} {a : Act} {o : Oper} {c x y : Operand} {t : Bool} (ht : TRel S H pl tmps a) (h : WRel G B w0 S H pl w) (ho : o.op = .pick c x y) (hc : evA tmps c = .v (.bool t)) : OpW P G B w0 o a S H pl w (if t then evA tmps x else evA tmps y) H := by
  have hb := ht.ev c
  rw [hc] at hb
  have := hb.v_inv
  refine .still h (u := if t then a.eval x else a.eval y) (by simp [execOp, ho, this, asBool]) ?_
  cases t
  · exact ht.ev y
  · exact ht.ev x
theorem op_load {tmps : List AV} {a : Act} {o : Oper} {t : Nat} {x : Operand} {y : AV} (hT : TdOk P C) (ht : TRel S H pl tmps a) (h : WRel G B w0 S H pl w) (ho : o.op = .load t x) (e : loadA C t (evA tmps x) H = some y) : OpW P G B w0 o a S H pl w y H := by
  obtain ⟨r, hr, hy⟩ := load_sound hT h (ht.ev x) e
  exact .still h (by simp [execOp, ho, hr]) hy

theorem field_sound (hT : TdOk P C) {t f off s sz : Nat} {g : Bool} {fs : List (Nat × Nat × Bool)} {zs : List Value} {x y : AV} {u : Value} (hx : Rep S H pl x u)
    (htd : C.td t = .agg sz fs zs) (hf : fs[f]? = some (off, s, g)) (e : fieldA x off H = some y) : ∃ r, (Instr.fieldAt t u f).run P w = .ok r w ∧ Rep S H pl y r := by
  obtain ⟨flds, i, hu, hi, hsz, hzz, hzl, hpos, _, hfl, hfs⟩ := hT.agg t _ _ _ htd
  have hlt : f < flds.toList.length := by rw [hfl]; exact (List.getElem?_eq_some_iff.1 hf).1
  have hfg : flds[f]? = some flds[f] := Array.getElem?_eq_getElem (by simpa using hlt)
  obtain ⟨hoff, hs0, hle, ⟨i', hi', hsi⟩, _⟩ := hfs f _ off s g hfg hf
  have hrun : ∀ ad : Addr, (Instr.fieldAt t (.pointer (some ad)) f).run P w = .ok (.pointer (some (ad.add off))) w := fun ad => by
    have : i'.size ≠ 0 := by omega
    simp [Instr.fieldAt, run_underlying hu, hfg, Instr.sureAddr, fieldPlace, sizeOf, typeInfo, hi', this, hoff]
  cases x with
  | ptr k o' =>
    simp only [fieldA] at e
    cases hH : H[k]? with
    | none => simp [hH] at e
    | some blk =>
      cases blk <;> simp [hH] at e
      subst e
      cases hx with
      | val _ _ r => cases r
      | ptr _ _ _ hi _ hp =>
        obtain ⟨b, c, hpl, rfl⟩ := hp _ hH
        exact ⟨_, hrun _, .ptr _ _ _ hi rfl fun cs q => ⟨b, c, hpl, by rw [Addr.add_lit]⟩⟩
  | gpt id ver j o' =>
    simp only [fieldA] at e
    cases hH : H[id]? with
    | none => simp [hH] at e
    | some blk =>
      cases blk <;> simp [hH] at e
      obtain ⟨rfl, rfl⟩ := e
      cases hx with
      | val _ _ r => cases r
      | gpt _ _ _ _ _ hi _ hp =>
        obtain ⟨b, c, hpl, rfl⟩ := (hp _ _ _ _ _ hH).2 rfl
        refine ⟨_, hrun _, .gpt _ _ _ _ _ hi rfl fun e2 s2 v2 bv2 es2 q => ?_⟩
        rw [hH] at q
        cases q
        refine ⟨Nat.le_refl _, fun _ => ⟨b, c, hpl, ?_⟩⟩
        rw [Addr.add_lit, Nat.add_assoc]
  | ept cs =>
    simp only [fieldA, Option.some.injEq] at e
    subst e
    cases hx with
    | val _ _ r =>
      cases r with
      | ept _ ad fv hs hr =>
        refine ⟨_, hrun ad, .val _ _ (.ept _ _ (fun j => fv (off + j)) (fun j hj => ?_) (fun j x hxj => ?_))⟩
        · rw [Addr.add_add]
          exact hs _ (by simp at hj; omega)
        · rw [List.getElem?_drop] at hxj
          exact hr _ x hxj
  | _ => simp [fieldA] at e

theorem part_sound (hT : TdOk P C) {t f off s sz : Nat} {g : Bool} {fs : List (Nat × Nat × Bool)} {zs : List Value} {cs : List AV} {y : AV} {u : Value} (hx : Rep S H pl (.agg cs) u)
    (htd : C.td t = .agg sz fs zs) (hf : fs[f]? = some (off, s, g)) (hle : off + s ≤ cs.length) (e : partOf g ((cs.drop off).take s) = some y) : ∃ r, (Instr.field t u f).run P w = .ok r w ∧ Rep S H pl y r := by
  obtain ⟨flds, i, hu, hi, hsz, hzz, hzl, hpos, _, hfl, hfs⟩ := hT.agg t _ _ _ htd
  have hlt : f < flds.toList.length := by rw [hfl]; exact (List.getElem?_eq_some_iff.1 hf).1
  have hfg : flds[f]? = some flds[f] := Array.getElem?_eq_getElem (by simpa using hlt)
  obtain ⟨hoff, hs0, _, ⟨i', hi', hsi⟩, d, hd, hdr, hg1⟩ := hfs f _ off s g hfg hf
  obtain ⟨us, rfl, hc⟩ := hx.agg_inv
  have hc' := (hc.drop off).take s
  unfold partOf at e
  cases g with
  | true =>
    rw [if_pos rfl] at e
    obtain rfl := Option.some.inj e
    refine ⟨.agg ((us.drop off).take s).toArray, ?_, .agg _ _ hc'.1 hc'.2⟩
    have hagg : (isAgg flds[f].type).run P w = .ok true w := by
      unfold isAgg
      rw [Sem.run_bind, run_underlying hd w]
      cases d <;> simp_all
    have hex : us.toArray.extract off (off + s) = ((us.drop off).take s).toArray := by
      apply Array.ext'
      simp [List.drop_take]
    simp [Instr.field, run_underlying hu, hfg, asAgg, part, Sem.run_bind, hagg, sizeOf, typeInfo, hi', hsi, hoff, hex]
  | false =>
    rw [if_neg (by decide)] at e
    obtain rfl := hg1 rfl
    have hagg : (isAgg flds[f].type).run P w = .ok false w := by
      unfold isAgg
      rw [Sem.run_bind, run_underlying hd w]
      cases d <;> simp_all
    have hlo : off < cs.length := by omega
    have e1 : (cs.drop off).take 1 = [cs[off]] := by
      rw [List.drop_eq_getElem_cons hlo]
      rfl
    rw [e1] at e
    simp at e
    subst e
    have hget : cs[off]? = some cs[off] := List.getElem?_eq_getElem hlo
    obtain ⟨v, hv, hr⟩ := hc.get hget
    refine ⟨v, ?_, hr⟩
    simp [Instr.field, run_underlying hu, hfg, asAgg, part, Sem.run_bind, hagg, hoff, hv]

theorem RepV.lst_congr {S : Sto} {sz n m : Nat} {get get' : Nat → List AV} {u : Value} (h : RepV S (.lst sz n m get) u) (hg : ∀ i, i < m → get' i = get i) : RepV S (.lst sz n m get') u := by
  cases h with
  | nil => exact .nil _ _
  | lst _ _ _ _ a cap f hnm hn hl hS hr h1 =>
    exact .lst _ _ _ _ a cap f hnm hn (fun i hi => by rw [hg i hi]; exact hl i hi) hS (fun i j x hi hx => by rw [hg i hi] at hx; exact hr i j x hi hx) h1
theorem Rep.lst_congr {S : Sto} {H : List Blk} {pl : Pl} {sz n m : Nat} {get get' : Nat → List AV} {u : Value} (h : Rep S H pl (.lst sz n m get) u) (hg : ∀ i, i < m → get' i = get i) : Rep S H pl (.lst sz n m get') u := by
  cases h with
  | val _ _ h => exact .val _ _ (h.lst_congr hg)
theorem slice_sound (hT : TdOk P C) {t e sz by_ n m : Nat} (htd : C.td t = .sl e sz by_) {get : Nat → List AV} {u : Value} (hx : Rep S H pl (.lst sz n m get) u) {kl kh km : IntKind} {l h k : Int} (h0 : 0 ≤ l) (h1 : l ≤ h) (h2 : h ≤ k) (h3 : k ≤ m)
    (lo hi mx : Option Value) (hlo : lo = some (.int kl l) ∨ lo = none ∧ l = 0) (hhi : hi = some (.int kh h) ∨ hi = none ∧ h = n) (hmx : mx = some (.int km k) ∨ mx = none ∧ k = m) (hm : mx = none ∨ hi = some (.int kh h)) :
    ∃ r, (Instr.sliceAt t u lo hi mx).run P w = .ok r w ∧ Rep S H pl (.lst sz (h.toNat - l.toNat) (k.toNat - l.toNat) fun i => get (l.toNat + i)) r := by
  obtain ⟨hu, hs0, ⟨ti, z, hi', hs, _⟩, _⟩ := hT.sl t e sz by_ htd
  have hel : P.elem t = e := by simp [Program.elem, hu]
  have hu' : P.underlying t = some (.slice (P.elem t)) := by rw [hel]; exact hu
  have hsz : (sizeOf (P.elem t)).run P w = .ok sz w := by rw [hel]; simp [sizeOf, typeInfo, hi', hs]
  have hrun : ∀ (a : Option Addr) (cap : Nat), n ≤ m → m ≤ cap → ∃ c, k.toNat ≤ c ∧ c ≤ cap ∧ (Instr.sliceAt t (.slice a n cap) lo hi mx).run P w = .ok (sliced a l.toNat h.toNat c sz) w := fun a cap hnm hcap => by
    rw [run_sliceAt_slice w t _ _ _ _ hu']
    rcases hmx with rfl | ⟨rfl, rfl⟩
    · refine ⟨k.toNat, Nat.le_refl _, by omega, ?_⟩
      rcases hm with hm | rfl
      · cases hm
      rcases hlo with rfl | ⟨rfl, rfl⟩
      · rw [run_slice_lhm w t a n cap hu' kl kh km l h k h0 h1 h2 (by omega), hsz]; rfl
      · rw [run_slice_hm w t a n cap hu' kh km h k (by omega) h2 (by omega), hsz]; simp [Result.andThen]
    · refine ⟨cap, by omega, Nat.le_refl _, ?_⟩
      rcases hlo with rfl | ⟨rfl, rfl⟩ <;> rcases hhi with rfl | ⟨rfl, rfl⟩
      · rw [run_slice_lh w t a n cap hu' kl kh l h h0 h1 (by omega), hsz]; rfl
      · rw [run_slice_l w t a n cap hu' kl l h0 (by omega), hsz]; simp [Result.andThen]
      · rw [run_slice_h w t a n cap hu' kh h (by omega) (by omega), hsz]; rfl
      · rw [run_slice_all w t a n cap hu', hsz]; simp [Result.andThen]
  cases hx with
  | val _ _ r =>
    cases r with
    | nil =>
      obtain ⟨c, _, hc, e⟩ := hrun none 0 (Nat.le_refl _) (Nat.le_refl _)
      refine ⟨_, e, .val _ _ ?_⟩
      have e1 : h.toNat = 0 := by omega
      have e2 : l.toNat = 0 := by omega
      have e3 : k.toNat = 0 := by omega
      obtain rfl : c = 0 := by omega
      rw [e1, e2, e3]
      exact .nil _ _
    | lst _ _ _ _ a cap f hnm hn hl hS hr h1' =>
      obtain ⟨c, hc1, hc2, e⟩ := hrun (some a) cap hnm hn
      refine ⟨_, e, .val _ _ ?_⟩
      unfold sliced
      by_cases hc : c = l.toNat
      · rw [if_pos hc]
        have e1 : h.toNat - l.toNat = 0 := by omega
        have e2 : k.toNat - l.toNat = 0 := by omega
        rw [e1, e2]
        exact .lst _ _ _ _ a _ (fun _ _ => undef) (Nat.le_refl _) (Nat.zero_le _) (fun i hi => by omega) (fun i j hi => by omega) (fun i j x hi => by omega) (fun i j hi => by omega)
      · rw [if_neg hc]
        refine .lst _ _ _ _ (a.add (l.toNat * sz)) _ (fun i j => f (l.toNat + i) j) (by omega) (by omega) (fun i hi => hl _ (by omega)) (fun i j hi hj => ?_) (fun i j x hi hxj => hr _ j x (by omega) hxj) (fun i j hi hj => h1' _ j (by omega) hj)
        rw [Addr.add_add, ← Nat.add_assoc, ← Nat.add_mul]
        exact hS _ j (by omega) hj

/-! ### Equality -/
theorem plainsOf_rep : ∀ {cs : List AV} {us vs : List Value}, plainsOf cs = some vs → Cs (Rep S H pl) cs us → us = vs
  | [], us, vs, e, k => by simp [plainsOf] at e; subst e; exact k.nil_inv
  | x :: cs, us, vs, e, k => by
    obtain ⟨u, us', rfl, hx, kc⟩ := k.tail
    cases x <;> simp only [plainsOf] at e <;> try (cases e; done)
    cases hq : plainsOf cs with
    | none => simp [hq] at e
    | some ys =>
      simp [hq] at e
      subst e
      rw [hx.v_inv, plainsOf_rep hq kc]
theorem bytes_eq (a b : ByteArray) : (a == b) = decide (a = b) := by
  rw [beq_toListBytes, ByteArray.toList_eq, ByteArray.toList_eq]
  by_cases h : a = b
  · simp [h]
  · rw [decide_eq_false h]
    refine beq_eq_false_iff_ne.2 fun e => h ?_
    cases a
    cases b
    simp at e
    rw [e]
theorem scEq_sound {d : Nat} {t : TypeId} {k : Nat} {td : TypeDesc} {u v : Value} {b : Bool} (hd : P.underlying t = some td) (hk : kindOk k td) (e : scEq k u v = some b) :
    (Op.equalIn (d + 1) t u v).run P w = .ok b w := by
  unfold scEq at e
  split at e
  · split at e
    · rename_i hkk
      subst hkk
      obtain rfl := Option.some.inj e
      cases td <;> simp [kindOk] at hk
      simp only [Op.equalIn, Sem.run_bind, run_underlying hd, Result.andThen_ok, if_true, Sem.run_pure]
      rfl
    · cases e
  · obtain rfl := Option.some.inj e
    cases td <;> simp [kindOk] at hk
    simp only [Op.equalIn, Sem.run_bind, run_underlying hd, Result.andThen_ok, Sem.run_pure]
  · obtain rfl := Option.some.inj e
    cases td <;> simp [kindOk] at hk
    simp only [Op.equalIn, Sem.run_bind, run_underlying hd, Result.andThen_ok, Sem.run_pure, bytes_eq]
  · cases e
theorem scEq_one {k : Nat} {u v : Value} {b : Bool} (e : scEq k u v = some b) : True := trivial
theorem eqFields_flat (d : Nat) (xs ys : Array Value) : ∀ (fs : List Field) (ks : List Nat) (k : Nat) (us vs : List Value) (b : Bool), EqFlds P k fs ks →
    (∀ (j : Nat) u, us[j]? = some u → xs[k + j]? = some u) → (∀ (j : Nat) u, vs[j]? = some u → ys[k + j]? = some u) → scEqs ks us vs = some b → (Op.eqFields (d + 1) xs ys fs).run P w = .ok b w
  | [], [], k, us, vs, b, _, _, _, e => by
    cases us <;> cases vs <;> simp [scEqs] at e
    subst e
    rfl
  | [], _ :: _, k, us, vs, b, hf, _, _, e => hf.elim
  | _ :: _, [], k, us, vs, b, hf, _, _, e => hf.elim
  | f :: fs, x :: ks, k, us, vs, b, hf, hx, hy, e => by
    obtain ⟨hoff, hnm, ⟨d', hd, hk⟩, hrest⟩ := hf
    cases us with
    | nil => simp [scEqs] at e
    | cons u us =>
      cases vs with
      | nil => simp [scEqs] at e
      | cons v vs =>
        simp only [scEqs] at e
        cases h1 : scEq x u v with
        | none => simp [h1] at e
        | some b1 =>
          cases h2 : scEqs ks us vs with
          | none => simp [h1, h2] at e
          | some b2 =>
            simp [h1, h2] at e
            subst e
            have hrow : d'.isRow = false := by
              unfold kindOk at hk
              split at hk <;> simp_all
            have hagg : (isAgg f.type).run P w = .ok false w := by
              unfold isAgg
              rw [Sem.run_bind, run_underlying hd w]
              cases d' <;> simp_all
            have hx0 : xs[k]? = some u := hx 0 u rfl
            have hy0 : ys[k]? = some v := hy 0 v rfl
            have px : (part f.type xs f.offset).run P w = .ok u w := by simp only [part, Sem.run_bind, hagg, hoff, Result.andThen_ok, Bool.false_eq_true, if_false, hx0, Sem.run_pure]
            have py : (part f.type ys f.offset).run P w = .ok v w := by simp only [part, Sem.run_bind, hagg, hoff, Result.andThen_ok, Bool.false_eq_true, if_false, hy0, Sem.run_pure]
            have he : (Op.equalIn (d + 1) f.type u v).run P w = .ok b1 w := scEq_sound hd hk h1
            have ih := eqFields_flat d xs ys fs ks (k + 1) us vs b2 hrest
              (fun j z hz => by rw [show k + 1 + j = k + (j + 1) by omega]; exact hx (j + 1) z (by simpa using hz)) (fun j z hz => by rw [show k + 1 + j = k + (j + 1) by omega]; exact hy (j + 1) z (by simpa using hz)) h2
            simp only [Op.eqFields, if_pos hnm, Sem.run_bind, px, py, he, Result.andThen_ok]
            cases b1
            · simp
            · simpa using ih
theorem equal_flat {t : TypeId} (hK : CtxOk P C G) (ht : C.eqs t ≠ []) {us vs : List Value} {b : Bool} (e : scEqs (C.eqs t) us vs = some b) : (Op.equal t (.agg us.toArray) (.agg vs.toArray)).run P w = .ok b w := by
  obtain ⟨_, hp, flds, hu, hf⟩ := hK.eqs t ht
  have hfo : P.fieldsOf t = flds := by simp [Program.fieldsOf, hu]
  unfold Op.equal
  rw [show Op.maxDepth = (9998 + 1) + 1 from rfl, run_equalIn_struct w (9998 + 1) t _ _ (by rw [hfo]; exact hu) hp, hfo]
  exact eqFields_flat 9998 _ _ _ _ 0 us vs b hf (fun j u hu => by simpa using hu) (fun j u hu => by simpa using hu) e
theorem eqGuard_flat {t : TypeId} (hK : CtxOk P C G) (ht : C.eqs t ≠ []) (op : BinOp) (x y : Operand) (us vs : Array Value) : (eqGuard op t x y (.agg us) (.agg vs)).run P w = .ok () w := by
  obtain ⟨hg, _⟩ := hK.eqs t ht
  unfold eqGuard
  cases op <;> simp [Sem.run_bind, program, Sem.run, hg]
end
end Go.Proofs.YtalkodandfjkmaaDoor.Av

/- The interpreter's quiet step, whole. -/
set_option linter.unusedVariables false
set_option linter.unusedSimpArgs false
namespace Go.Proofs.YtalkodandfjkmaaDoor.Av
open Go Go.RowKit
variable {P : Program}
section
variable {S : Sto} {H : List Blk} {pl : Pl} {G : World → Prop} {B : Nat} {w0 w : World} {C : Ctx}


theorem lenA_sound (h : WRel G B w0 S H pl w) {x : AV} {u : Value} {n : Nat} (hx : Rep S H pl x u) (e : lenA x H = some n) : ∃ a c, u = .slice a n c := by
  cases x with
  | z b sz =>
    simp only [lenA, Option.some.injEq] at e
    subst e
    cases hx with
    | val _ _ r => cases r with
      | znil => exact ⟨_, _, rfl⟩
      | zsome _ a => exact ⟨_, _, rfl⟩
  | lst sz m k get =>
    simp only [lenA, Option.some.injEq] at e
    subst e
    cases hx with
    | val _ _ r => cases r with
      | nil => exact ⟨_, _, rfl⟩
      | lst _ _ _ _ a cap => exact ⟨_, _, rfl⟩
  | own id ver =>
    simp only [lenA] at e
    cases hH : H[id]? with
    | none => simp [hH] at e
    | some blk =>
      cases blk <;> simp [hH] at e
      obtain ⟨rfl, rfl⟩ := e
      cases hx with
      | val _ _ r => cases r
      | own _ _ _ hi h1 k =>
        have := (k _ _ _ _ _ hH).2 rfl
        subst this
        cases hp : pl id with
        | none =>
          have := (h.h.grow id _ _ _ _ _ hH).2.2.1 hp
          subst this
          exact ⟨_, _, rfl⟩
        | some bc => exact ⟨_, _, rfl⟩
  | v x =>
    have := hx.v_inv
    subst this
    cases u <;> simp [lenA] at e
    subst e
    exact ⟨_, _, rfl⟩
  | _ => simp [lenA] at e

theorem congr_bin {o : Oper} {op : BinOp} {t t' : TypeId} {x y : Operand} (ho : o.op = .binOp op t x y t') (r r' : Operand → Value) (h : ∀ z ∈ o.op.operands, r z = r' z) : execOp r o = execOp r' o := by
  have hx := h x (by simp [ho, Op.operands])
  have hy := h y (by simp [ho, Op.operands])
  simp only [execOp, ho, hx, hy]
theorem congr_un {o : Oper} {op : UnOp} {t : TypeId} {x : Operand} (ho : o.op = .unOp op t x) (r r' : Operand → Value) (h : ∀ z ∈ o.op.operands, r z = r' z) : execOp r o = execOp r' o := by
  have hx := h x (by simp [ho, Op.operands])
  simp only [execOp, ho, hx]
theorem congr_conv {o : Oper} {t t' : TypeId} {x : Operand} (ho : o.op = .convert t t' x) (r r' : Operand → Value) (h : ∀ z ∈ o.op.operands, r z = r' z) : execOp r o = execOp r' o := by
  have hx := h x (by simp [ho, Op.operands])
  simp only [execOp, ho, hx]
theorem congr_index {o : Oper} {t : TypeId} {x y : Operand} (ho : o.op = .index t x y) (r r' : Operand → Value) (h : ∀ z ∈ o.op.operands, r z = r' z) : execOp r o = execOp r' o := by
  have hx := h x (by simp [ho, Op.operands])
  have hy := h y (by simp [ho, Op.operands])
  simp only [execOp, ho, hx, hy]
theorem congr_slice {o : Oper} {t : TypeId} {x : Operand} {lo hi mx : Option Operand} (ho : o.op = .slice t x lo hi mx) (r r' : Operand → Value) (h : ∀ z ∈ o.op.operands, r z = r' z) : execOp r o = execOp r' o := by
  have hx := h x (by simp [ho, Op.operands])
  have h1 : lo.map r = lo.map r' := by cases lo with | none => rfl | some z => simp [h z (by simp [ho, Op.operands])]
  have h2 : hi.map r = hi.map r' := by cases hi with | none => rfl | some z => simp [h z (by simp [ho, Op.operands])]
  have h3 : mx.map r = mx.map r' := by cases mx with | none => rfl | some z => simp [h z (by simp [ho, Op.operands])]
  simp only [execOp, ho, hx, h1, h2, h3]
theorem congr_builtin {o : Oper} {c : Call} {b : Builtin} (ho : o.op = .call c) (hc : c.callee = .builtin b) (r r' : Operand → Value) (h : ∀ z ∈ o.op.operands, r z = r' z) : execOp r o = execOp r' o := by
  have ha : c.args.map r = c.args.map r' := by
    apply Array.map_congr_left
    intro z hz
    exact h z (by simp [ho, Op.operands, Call.operands, hc, hz])
  simp only [execOp, ho, resolve, hc, ha]


theorem strslice_sound (hT : TdOk P C) {t : Nat} {z : ByteArray} (htd : C.td t = .one (.string z)) {s : ByteArray} {kl kh : IntKind} {l h : Int} (h0 : 0 ≤ l) (h1 : l ≤ h) (h2 : h ≤ s.size)
    (lo hi : Option Value) (hlo : lo = some (.int kl l) ∨ lo = none ∧ l = 0) (hhi : hi = some (.int kh h) ∨ hi = none ∧ h = s.size) :
    (Instr.sliceAt t (.string s) lo hi none).run P w = .ok (.string (s.extract l.toNat h.toNat)) w := by
  obtain ⟨⟨d, hu, _, hk⟩, _⟩ := hT.one t _ htd
  have hk' : d = .string := hk
  subst hk'
  rw [run_sliceAt_string w t _ _ _ _ hu]
  have e1 : (l.toNat : Int) = l := Int.toNat_of_nonneg h0
  have e2 : (h.toNat : Int) = h := Int.toNat_of_nonneg (by omega)
  rcases hlo with rfl | ⟨rfl, rfl⟩ <;> rcases hhi with rfl | ⟨rfl, rfl⟩
  · simp [Instr.slice, run_underlying hu, Instr.sliceBounds, run_sliceBound, (by omega : 0 ≤ h), h2, e2, h0, h1]
  · simp [Instr.slice, run_underlying hu, Instr.sliceBounds, run_sliceBound, h0, h1]
  · simp [Instr.slice, run_underlying hu, Instr.sliceBounds, run_sliceBound, (by omega : 0 ≤ h), h2]
  · simp [Instr.slice, run_underlying hu, Instr.sliceBounds]

theorem boundA_inv {d n : Int} {tmps : List AV} {a : Act} (ht : TRel S H pl tmps a) {x : Option Operand} (e : boundA d (x.map (evA tmps)) = some n) : ∃ k, x.map a.eval = some (.int k n) ∨ x.map a.eval = none ∧ n = d := by
  cases x with
  | none => simp [boundA] at e; exact ⟨.i64, .inr ⟨rfl, e.symm⟩⟩
  | some y =>
    simp only [Option.map_some, boundA] at e
    split at e
    · rename_i heq; cases heq
    · rename_i k l heq
      obtain rfl := Option.some.inj e
      have := ht.ev y
      rw [Option.some.inj heq] at this
      exact ⟨k, .inl (by simp [this.v_inv])⟩
    · cases e

theorem bound_mx {tmps : List AV} {a : Act} {hi mx : Option Operand} (h : ((mx.map (evA tmps)).isNone || (hi.map (evA tmps)).isSome) = true) : mx = none ∨ hi.isSome = true := by
  cases mx <;> cases hi <;> simp_all
theorem sliceA_sound {S' : Sto} {H' : List Blk} {pl' : Pl} {tmps : List AV} {a : Act} {t : Nat} {lo hi mx : Option Operand} {x y : AV} {u : Value} (hT : TdOk P C) (ht : TRel S H pl tmps a) (hx : Rep S' H' pl' x u)
    (e : sliceA (C.td t) x (lo.map (evA tmps)) (hi.map (evA tmps)) (mx.map (evA tmps)) = some y) : ∃ r, (Instr.sliceAt t u (lo.map a.eval) (hi.map a.eval) (mx.map a.eval)).run P w = .ok r w ∧ Rep S' H' pl' y r := by
  unfold sliceA at e
  split at e
  · rename_i d' ax e' sz' by' sz n m get htd
    split at e
    · rename_i hss
      obtain ⟨rfl, hmo⟩ := hss
      split at e
      · rename_i l h' k hl hh hk
        split at e
        · rename_i hb
          obtain rfl := Option.some.inj e
          obtain ⟨kl, hl'⟩ := boundA_inv ht hl
          obtain ⟨kh, hh'⟩ := boundA_inv ht hh
          obtain ⟨km, hk'⟩ := boundA_inv ht hk
          have hm : mx.map a.eval = none ∨ hi.map a.eval = some (.int kh h') := by
            rcases bound_mx (a := a) hmo with rfl | q
            · exact .inl rfl
            · rcases hh' with q' | ⟨q', _⟩
              · exact .inr q'
              · cases hi with | none => cases q | some z => cases q'
          obtain ⟨r, hr, hy⟩ := slice_sound (w := w) hT htd hx (kl := kl) (kh := kh) (km := km) hb.1 hb.2.1 hb.2.2.1 hb.2.2.2 _ _ _ hl' hh' hk' hm
          exact ⟨r, hr, hy.lst_congr fun i hi => by simp only [nrm, if_pos hi]⟩
        · cases e
      · cases e
    · cases e
  · rename_i d' ax z s htd
    split at e
    · rename_i hmx
      have hmx' : mx = none := by cases mx with | none => rfl | some _ => simp at hmx
      subst hmx'
      split at e
      · rename_i l h' hl hh
        split at e
        · rename_i hb
          obtain rfl := Option.some.inj e
          obtain ⟨kl, hl'⟩ := boundA_inv ht hl
          obtain ⟨kh, hh'⟩ := boundA_inv ht hh
          have hr := strslice_sound (w := w) hT htd (kl := kl) (kh := kh) hb.1 hb.2.1 hb.2.2 _ _ hl' hh'
          exact ⟨_, by rw [hx.v_inv]; exact hr, .val _ _ (.v _)⟩
        · cases e
      · cases e
    · cases e
  · cases e

theorem slice_op {tmps : List AV} {a : Act} {o : Oper} {t : Nat} {x : Operand} {lo hi mx : Option Operand} {y : AV} (hT : TdOk P C) (ht : TRel S H pl tmps a) (h : WRel G B w0 S H pl w) (ho : o.op = .slice t x lo hi mx)
    (e : sliceA (C.td t) (evA tmps x) (lo.map (evA tmps)) (hi.map (evA tmps)) (mx.map (evA tmps)) = some y) : OpW P G B w0 o a S H pl w y H := by
  obtain ⟨r, hr, hy⟩ := sliceA_sound (w := w) hT ht (ht.ev x) e
  exact .still h (by simp [execOp, ho, hr]) hy

theorem eqNil_sound (hT : TdOk P C) {t : Nat} {a b : AV} {x y : Value} (ha : Rep S H pl a x) (hb : Rep S H pl b y) {r : Bool} (e : eqNil (C.td t) a b = some r) : (Op.equal t x y).run P w = .ok r w := by
  unfold eqNil at e
  unfold Op.equal
  obtain ⟨n, hn⟩ : ∃ n, Op.maxDepth = n + 1 := ⟨9999, rfl⟩
  rw [hn]
  clear hn
  split at e <;> first | (cases e; done) | skip
  all_goals
    rename_i htd
    obtain rfl := Option.some.inj e
    obtain ⟨⟨d, hu, _, hk⟩, _⟩ := hT.one t _ htd
    simp only [oneKind] at hk
  · obtain ⟨ms, rfl⟩ := hk
    obtain ⟨u, rfl, _⟩ := ha.ifc_inv
    obtain rfl := hb.v_inv
    simp [Op.equalIn, run_underlying hu]
  · obtain ⟨ms, rfl⟩ := hk
    obtain ⟨u, rfl, _⟩ := hb.ifc_inv
    obtain rfl := ha.v_inv
    simp [Op.equalIn, run_underlying hu]
  · obtain ⟨ms, rfl⟩ := hk
    obtain rfl := hb.v_inv
    obtain rfl := ha.v_inv
    simp [Op.equalIn, run_underlying hu]
  · obtain ⟨ms, rfl⟩ := hk
    obtain rfl := hb.v_inv
    obtain rfl := ha.v_inv
    simp [Op.equalIn, run_underlying hu]
  · obtain ⟨ms, rfl⟩ := hk
    obtain rfl := hb.v_inv
    obtain rfl := ha.v_inv
    simp [Op.equalIn, run_underlying hu]
  · obtain ⟨_, _, _, rfl⟩ := hk
    obtain ⟨u, rfl, _⟩ := ha.fn_inv
    obtain rfl := hb.v_inv
    simp [Op.equalIn, run_underlying hu]
  · obtain ⟨_, _, _, rfl⟩ := hk
    obtain rfl := hb.v_inv
    obtain rfl := ha.v_inv
    simp [Op.equalIn, run_underlying hu]
  · obtain ⟨_, rfl⟩ := hk
    obtain rfl := hb.v_inv
    cases ha with
    | val _ _ q =>
      cases q with
      | ept _ ad f => simp [Op.equalIn, run_underlying hu]
  · obtain ⟨_, rfl⟩ := hk
    obtain rfl := hb.v_inv
    obtain rfl := ha.v_inv
    simp [Op.equalIn, run_underlying hu]
  · subst hk
    obtain rfl := hb.v_inv
    obtain rfl := ha.v_inv
    simp [Op.equalIn, run_underlying hu]


/-- Values whose equality goes by their type. -/
def byType : Value → Bool
  | .int .. | .string _ | .float .. | .complex .. => false
  | _ => true
theorem binOp_eql {t : TypeId} {u v : Value} (h : byType u = true) {r : Bool} (e : (Op.equal t u v).run P w = .ok r w) : (binOp .eql t u v).run P w = .ok (.bool r) w := by
  unfold binOp
  cases u <;> simp [byType] at h <;> simp [Sem.run_bind, e]
theorem binOp_neq {t : TypeId} {u v : Value} (h : byType u = true) {r : Bool} (e : (Op.equal t u v).run P w = .ok r w) : (binOp .neq t u v).run P w = .ok (.bool (!r)) w := by
  unfold binOp
  cases u <;> simp [byType] at h <;> simp [Sem.run_bind, e]

theorem eqNil_shape (h : TdOk P C) {t : Nat} {a b : AV} {x y : Value} (ha : Rep S H pl a x) (hb : Rep S H pl b y) {r : Bool} (e : eqNil (C.td t) a b = some r) (p q : Operand) (op : BinOp)
    (hc : (isConst p || isConst q || isBoolT (C.td t)) = true) : byType x = true ∧ (eqGuard op t p q x y).run P w = .ok () w := by
  have hcc : (isConst p = true ∨ isConst q = true) → (eqGuard op t p q .nilIface .nilIface).run P w = .ok () w := by
    intro hpq
    unfold eqGuard
    rcases hpq with hp | hq
    · cases p <;> simp [isConst] at hp
      cases op <;> simp
    · cases q <;> simp [isConst] at hq
      cases op <;> simp
  unfold eqNil at e
  split at e <;> first | (cases e; done) | skip
  · obtain ⟨u, rfl, _⟩ := ha.ifc_inv
    obtain rfl := hb.v_inv
    exact ⟨rfl, by unfold eqGuard; cases op <;> simp⟩
  · obtain ⟨u, rfl, _⟩ := hb.ifc_inv
    obtain rfl := ha.v_inv
    exact ⟨rfl, by unfold eqGuard; cases op <;> simp⟩
  · obtain rfl := hb.v_inv
    obtain rfl := ha.v_inv
    exact ⟨rfl, by unfold eqGuard; cases op <;> simp⟩
  · obtain rfl := hb.v_inv
    obtain rfl := ha.v_inv
    exact ⟨rfl, by unfold eqGuard; cases op <;> simp⟩
  · rename_i htd
    obtain rfl := hb.v_inv
    obtain rfl := ha.v_inv
    rw [htd] at hc
    simp [isBoolT] at hc
    exact ⟨rfl, hcc hc⟩
  · obtain ⟨u, rfl, _⟩ := ha.fn_inv
    obtain rfl := hb.v_inv
    exact ⟨rfl, by unfold eqGuard; cases op <;> simp⟩
  · obtain rfl := hb.v_inv
    obtain rfl := ha.v_inv
    exact ⟨rfl, by unfold eqGuard; cases op <;> simp⟩
  · obtain rfl := hb.v_inv
    cases ha with
    | val _ _ q =>
      cases q with
      | ept _ ad f => exact ⟨rfl, by unfold eqGuard; cases op <;> simp⟩
  · obtain rfl := hb.v_inv
    obtain rfl := ha.v_inv
    exact ⟨rfl, by unfold eqGuard; cases op <;> simp⟩
  · obtain rfl := hb.v_inv
    obtain rfl := ha.v_inv
    exact ⟨rfl, by unfold eqGuard; cases op <;> simp⟩

theorem opS_op {tmps : List AV} {a : Act} {o : Oper} {b : BinOp} {t t' : Nat} {x y : Operand} {r : AV} (ht : TRel S H pl tmps a) (h : WRel G B w0 S H pl w) (ho : o.op = .binOp b t x y t') (e : opS b (evA tmps x) (evA tmps y) = some r) : OpW P G B w0 o a S H pl w r H := by
  have hx := ht.ev x
  have hy := ht.ev y
  unfold opS at e
  split at e
  · rename_i s s' h1 h2
    obtain rfl := Option.some.inj e
    rw [h1] at hx
    rw [h2] at hy
    exact .still h (u := .bool (decide (s = s'))) (by simp [execOp, ho, hx.v_inv, hy.v_inv, eqGuard, binOp, Op.stringOp, ← beq_toListBytes, bytes_eq]) (.val _ _ (.v _))
  · rename_i s s' h1 h2
    obtain rfl := Option.some.inj e
    rw [h1] at hx
    rw [h2] at hy
    exact .still h (u := .bool (!decide (s = s'))) (by simp [execOp, ho, hx.v_inv, hy.v_inv, eqGuard, binOp, Op.stringOp, ← beq_toListBytes, bytes_eq]) (.val _ _ (.v _))
  · rename_i k s k' n h1 h2
    obtain rfl := Option.some.inj e
    rw [h1] at hx
    rw [h2] at hy
    have h0 : ¬ ((Int.ofNat n) < 0) := by simp
    exact .still h (u := .int k (k.wrap (s * 2 ^ min n k.bits))) (by simp only [execOp, ho, hx.v_inv, hy.v_inv, binOp, Op.shift, if_neg h0]; simp [eqGuard]) (.val _ _ (.v _))
  · rename_i k s k' n h1 h2
    obtain rfl := Option.some.inj e
    rw [h1] at hx
    rw [h2] at hy
    have h0 : ¬ ((Int.ofNat n) < 0) := by simp
    exact .still h (u := .int k (s.fdiv (2 ^ min n k.bits))) (by simp only [execOp, ho, hx.v_inv, hy.v_inv, binOp, Op.shift, if_neg h0]; simp [eqGuard]) (.val _ _ (.v _))
  · rename_i k s k' n h1 h2
    split at e
    · rename_i hn
      obtain ⟨rfl, hn⟩ := hn
      obtain rfl := Option.some.inj e
      rw [h1] at hx
      rw [h2] at hy
      exact .still h (u := .int k (s.tmod n)) (by simp [execOp, ho, hx.v_inv, hy.v_inv, eqGuard, binOp, Op.intDiv, if_neg hn]) (.val _ _ (.v _))
    · cases e
  · rename_i k s k' n h1 h2
    split at e
    · rename_i hn
      obtain ⟨rfl, hn⟩ := hn
      obtain rfl := Option.some.inj e
      rw [h1] at hx
      rw [h2] at hy
      exact .still h (u := .int k (k.wrap (s.tdiv n))) (by simp [execOp, ho, hx.v_inv, hy.v_inv, eqGuard, binOp, Op.intDiv, if_neg hn]) (.val _ _ (.v _))
    · cases e
  · rename_i s s' h1 h2
    split at e
    · rename_i hle
      obtain rfl := Option.some.inj e
      rw [h1] at hx
      rw [h2] at hy
      have hn : ¬ (IntKind.i64.max < ((s.size + s'.size : Nat) : Int)) := by
        have : IntKind.i64.max = 9223372036854775807 := rfl
        omega
      exact .still h (u := .string (s ++ s')) (by simp only [execOp, ho, hx.v_inv, hy.v_inv, binOp, Op.stringOp, gt_iff_lt, if_neg hn]; simp [eqGuard]) (.val _ _ (.v _))
    · cases e
  · cases e

theorem mm_args {tmps : List AV} {a : Act} {c : Call} {k k' : IntKind} {x y : Int} (ht : TRel S H pl tmps a) (hl : c.args.toList.map (evA tmps) = [.v (.int k x), .v (.int k' y)]) : c.args.map a.eval = #[.int k x, .int k' y] := by
  obtain ⟨p, q, hpq⟩ : ∃ p q, c.args.toList = [p, q] := by
    cases hz : c.args.toList with
    | nil => rw [hz] at hl; cases hl
    | cons p r =>
      cases r with
      | nil => rw [hz] at hl; simp at hl
      | cons q r =>
        cases r with
        | nil => exact ⟨p, q, rfl⟩
        | cons _ _ => rw [hz] at hl; simp at hl
  rw [hpq] at hl
  simp only [List.map_cons, List.map_nil, List.cons.injEq, and_true] at hl
  have hp := ht.ev p
  have hq := ht.ev q
  rw [hl.1] at hp
  rw [hl.2] at hq
  rw [← Array.toArray_toList (xs := c.args), hpq]
  simp [hp.v_inv, hq.v_inv]
theorem mm_op {tmps : List AV} {a : Act} {o : Oper} {c : Call} {mx : Bool} {r : AV} (ht : TRel S H pl tmps a) (h : WRel G B w0 S H pl w) (ho : o.op = .call c) (hc : mx = false ∧ c.callee = .builtin .min ∨ mx = true ∧ c.callee = .builtin .max)
    (e : mmA mx (c.args.toList.map (evA tmps)) = some r) : OpW P G B w0 o a S H pl w r H := by
  rcases hc with ⟨rfl, hc⟩ | ⟨rfl, hc⟩
  · unfold mmA at e
    split at e
    · rename_i hb _; cases hb
    · rename_i k x k' y _ hl
      obtain rfl := Option.some.inj e
      refine .still h (u := .int k (min x y)) ?_ (.val _ _ (.v _))
      have : min x y = if y < x then y else x := by
        split <;> omega
      simp [execOp, ho, resolve, hc, mm_args ht hl, invoke, builtin, Sem.run_bind, run_min_int2, this]
    · cases e
  · unfold mmA at e
    split at e
    · rename_i k x k' y _ hl
      obtain rfl := Option.some.inj e
      refine .still h (u := .int k (max x y)) ?_ (.val _ _ (.v _))
      have : max x y = if y > x then y else x := by
        split <;> omega
      simp [execOp, ho, resolve, hc, mm_args ht hl, invoke, builtin, Sem.run_bind, run_max_int2, this]
    · rename_i hb _; cases hb
    · cases e

theorem eqA_sound {tmps : List AV} {a : Act} {t : Nat} {x y : Operand} {r : Bool} (hK : CtxOk P C G) (ht : TRel S H pl tmps a) (e : eqA C t (isConst x || isConst y) (evA tmps x) (evA tmps y) = some r) (op : BinOp) :
    byType (a.eval x) = true ∧ (eqGuard op t x y (a.eval x) (a.eval y)).run P w = .ok () w ∧ (Op.equal t (a.eval x) (a.eval y)).run P w = .ok r w := by
  have hx := ht.ev x
  have hy := ht.ev y
  unfold eqA at e
  split at e
  · rename_i cs ds hcs hds
    rw [hcs] at hx
    rw [hds] at hy
    obtain ⟨us, hu, hcu⟩ := hx.agg_inv
    obtain ⟨vs, hv, hcv⟩ := hy.agg_inv
    split at e
    · rename_i us' vs' k ks h1 h2 h3
      have e1 := plainsOf_rep h1 hcu
      have e2 := plainsOf_rep h2 hcv
      subst e1
      subst e2
      have hne : C.eqs t ≠ [] := by rw [h3]; simp
      rw [← h3] at e
      rw [hu, hv]
      exact ⟨rfl, eqGuard_flat hK hne op x y _ _, equal_flat hK hne e⟩
    · cases e
  · split at e
    · rename_i hc
      have hs := eqNil_shape (w := w) hK.td hx hy e x y op hc
      exact ⟨hs.1, hs.2, eqNil_sound hK.td hx hy e⟩
    · cases e

theorem eql_op {tmps : List AV} {a : Act} {o : Oper} {t t' : Nat} {x y : Operand} {r : Bool} (hK : CtxOk P C G) (ht : TRel S H pl tmps a) (h : WRel G B w0 S H pl w) (ho : o.op = .binOp .eql t x y t')
    (e : eqA C t (isConst x || isConst y) (evA tmps x) (evA tmps y) = some r) : OpW P G B w0 o a S H pl w (.v (.bool r)) H := by
  obtain ⟨h1, h2, h3⟩ := eqA_sound (w := w) hK ht e .eql
  exact .still h (by simp only [execOp, ho, Sem.run_bind, h2, binOp_eql h1 h3, Result.andThen_ok, Sem.run_pure]) (.val _ _ (.v _))
theorem neq_op {tmps : List AV} {a : Act} {o : Oper} {t t' : Nat} {x y : Operand} {r : Bool} (hK : CtxOk P C G) (ht : TRel S H pl tmps a) (h : WRel G B w0 S H pl w) (ho : o.op = .binOp .neq t x y t')
    (e : eqA C t (isConst x || isConst y) (evA tmps x) (evA tmps y) = some r) : OpW P G B w0 o a S H pl w (.v (.bool (!r))) H := by
  obtain ⟨h1, h2, h3⟩ := eqA_sound (w := w) hK ht e .neq
  exact .still h (by simp only [execOp, ho, Sem.run_bind, h2, binOp_neq h1 h3, Result.andThen_ok, Sem.run_pure]) (.val _ _ (.v _))

theorem callMA_inv {f : AV} {args : List AV} {x : AV} {Hr : List Blk} (e : callMA C f args H = some (x, Hr)) : ∃ n caps m as, f = .fn n caps ∧ C.m n = some m ∧ AV.vals H (args ++ caps) = some as ∧ m as = some (x, Hr) ∧ ((x.flo && Hr.all Blk.flat) || AV.hbs 0 (args ++ caps)) = true := by
  unfold callMA at e
  split at e
  · rename_i n caps
    split at e
    · rename_i m hm
      split at e
      · rename_i as ha
        split at e
        · rename_i r' Hr' hr
          split at e
          · rename_i hfl
            simp only [Option.some.injEq, Prod.mk.injEq] at e
            obtain ⟨rfl, rfl⟩ := e
            exact ⟨n, caps, m, as, rfl, hm, ha, hr, hfl⟩
          · cases e
        · cases e
      · cases e
    · cases e
  · cases e
theorem callMA_op {tmps : List AV} {a : Act} {o : Oper} {c : Call} {f : Operand} {x : AV} {Hr : List Blk} (hK : CtxOk P C G) (ht : TRel S H pl tmps a) (h : WRel G B w0 S H pl w) (ho : o.op = .call c) (hc : c.callee = .value f)
    (e : callMA C (evA tmps f) (c.args.toList.map (evA tmps)) H = some (x, Hr)) : OpW P G B w0 o a S H pl w (x.shift H.length) (H ++ Hr.map (Blk.shift H.length)) := by
  obtain ⟨n, caps, m, as, hf, hm, ha, hr, hfl⟩ := callMA_inv e
  exact call_m hK ht h ho hc hf hm ha hr hfl
theorem callMA_q {tmps : List AV} {a : Act} {o : Oper} {c : Call} {f : Operand} {x y : AV} {Hr : List Blk} (hG : ∀ w', Below B w0 w' → G w') (hK : CtxOk P C G) (ht : TRel S H pl tmps a) (h : WRel G B w0 S H pl w) (ho : o.op = .call c) (hc : c.callee = .value f)
    (e : callMA C (evA tmps f) (c.args.toList.map (evA tmps)) H = some (x, Hr)) (hv : AV.val Hr x = some y) : OpW P G B w0 o a S H pl w y H := by
  obtain ⟨n, caps, m, as, hf, hm, ha, hr, hfl⟩ := callMA_inv e
  intro next Q k
  refine call_any hK ht h ho hc hf hm ha hr hfl next Q fun u S' plr w' hS hsep hW hR => ?_
  obtain ⟨S2, hE, hW2, hR2⟩ := h.freeze hG hS hsep hW hR hv
  exact k u S2 pl w' hE hW2 (.val _ _ hR2)

end
end Go.Proofs.YtalkodandfjkmaaDoor.Av

/- The interpreter's operations that make or write memory, held against the program's own. -/
set_option linter.unusedVariables false
set_option linter.unusedSimpArgs false
namespace Go.Proofs.YtalkodandfjkmaaDoor.Av
open Go Go.RowKit
variable {P : Program}
section
variable {S : Sto} {H : List Blk} {pl : Pl} {G : World → Prop} {B : Nat} {w0 w : World} {C : Ctx}

/-- A block as it lies behind a step. -/
def BlkOk (S : Sto) (H : List Blk) (pl : Pl) (B : Nat) (w' : World) (p : Option (Nat × Nat)) : Blk → Prop
  | .var cs => ∃ b c us t, p = some (b, c) ∧ B ≤ b ∧ w'.heap[b]? = some (.cells us.toArray t (0, 0)) ∧ Cs (Rep S H pl) cs us ∧ ∀ u ∈ us, u.oneCell' = true
  | .grow e sz ver bv es => 0 < sz ∧ (∀ c ∈ es, c.length = sz) ∧ (p = none → es = []) ∧ (bv = true → ∀ c ∈ es, AV.hbs 0 c = true) ∧
      ∃ xs, w'.ownsRow B e sz (slv p es.length) es.length xs ∧ Cs (Rep S H pl) es.flatten xs ∧ ∀ u ∈ xs, u.oneCell' = true
  | .dead => False

theorem BlkOk.mono {B' : Nat} {S' : Sto} {H' : List Blk} {pl' : Pl} {w' : World} {p : Option (Nat × Nat)} {x : Blk} (hE : Ext B' S H pl S' H' pl') (h : BlkOk S H pl B w' p x) : BlkOk S' H' pl' B w' p x := by
  cases x with
  | dead => exact h.elim
  | var cs =>
    obtain ⟨b, c, us, t, h1, h2, h3, h4, h5⟩ := h
    exact ⟨b, c, us, t, h1, h2, h3, h4.mono fun _ _ r => r.mono hE, h5⟩
  | grow e sz ver bv es =>
    obtain ⟨h1, h2, h3, h4, xs, h5, h6, h7⟩ := h
    exact ⟨h1, h2, h3, h4, xs, h5, h6.mono fun _ _ r => r.mono hE, h7⟩
theorem ownsRow_base {w : World} {B B' : Nat} {e : TypeId} {sz : Nat} {v : Value} {n : Nat} {xs : List Value} (h : w.ownsRow B e sz v n xs) (hb : B' ≤ B) : w.ownsRow B' e sz v n xs := by
  refine ⟨h.1, ?_⟩
  rcases h.2 with h | ⟨g, cap, cur, hv, hB, hg, r⟩
  · exact .inl h
  · exact .inr ⟨g, cap, cur, hv, Nat.le_trans hb hB, hg, r⟩
theorem BlkOk.base {B' : Nat} {w' : World} {p : Option (Nat × Nat)} {x : Blk} (h : BlkOk S H pl B w' p x) (hb : B' ≤ B) : BlkOk S H pl B' w' p x := by
  cases x with
  | dead => exact h.elim
  | var cs =>
    obtain ⟨b, c, us, t, h1, h2, h3, h4, h5⟩ := h
    exact ⟨b, c, us, t, h1, Nat.le_trans hb h2, h3, h4, h5⟩
  | grow e sz ver bv es =>
    obtain ⟨h1, h2, h3, h4, xs, h5, h6, h7⟩ := h
    exact ⟨h1, h2, h3, h4, xs, ownsRow_base h5 hb, h6, h7⟩
theorem BlkOk.lt {w' : World} {p : Option (Nat × Nat)} {x : Blk} (h : BlkOk S H pl B w' p x) {b c : Nat} (hp : p = some (b, c)) : B ≤ b := by
  cases x with
  | dead => exact h.elim
  | var cs =>
    obtain ⟨b', c', us, t, h1, h2, _⟩ := h
    rw [hp] at h1
    cases h1
    exact h2
  | grow e sz ver bv es =>
    obtain ⟨h1, h2, h3, h4, xs, h5, _⟩ := h
    exact (h5.lt b (by rw [slv_some, hp]; rfl)).1

def pushPl (n : Nat) (pl : Pl) (p : Option (Nat × Nat)) : Pl := fun k => if k = n then p else pl k
theorem push_ext {x : Blk} {p : Option (Nat × Nat)} : Ext B S H pl S (H ++ [x]) (pushPl H.length pl p) :=
  ⟨fun a u e => .inl e, S.le_refl, by simp, fun k cs hk e => ⟨cs, by rwa [List.getElem?_append_left hk] at e, by simp [pushPl, Nat.ne_of_lt hk]⟩, fun k e sz ver bv es hk q => ⟨e, ver, bv, es, by rwa [List.getElem?_append_left hk] at q, Nat.le_refl _, fun _ => ⟨rfl, by simp [pushPl, Nat.ne_of_lt hk]⟩⟩⟩

/-- A new block. -/
theorem WRel.push (hG : ∀ w', Below B w0 w' → G w') (h : WRel G B w0 S H pl w) {x : Blk} {p : Option (Nat × Nat)} {w' : World} (hb : Below w.heap.size w w') (hx : BlkOk S H pl w.heap.size w' p x) : WRel G B w0 S (H ++ [x]) (pushPl H.length pl p) w' := by
  have hE : Ext 0 S H pl S (H ++ [x]) (pushPl H.length pl p) := push_ext
  have hF := h.h.frame hb S.le_refl (fun _ _ e _ => e)
  have hx' := (hx.base h.base).mono hE
  have hold : ∀ k y, (H ++ [x])[k]? = some y → (k < H.length ∧ H[k]? = some y ∧ pushPl H.length pl p k = pl k) ∨ (k = H.length ∧ y = x ∧ pushPl H.length pl p k = p) := fun k y e => by
    by_cases hk : k < H.length
    · exact .inl ⟨hk, by rwa [List.getElem?_append_left hk] at e, by simp [pushPl, Nat.ne_of_lt hk]⟩
    · have hlt := (List.getElem?_eq_some_iff.1 e).1
      simp at hlt
      have : k = H.length := by omega
      subst this
      simp at e
      exact .inr ⟨rfl, e.symm, by simp [pushPl]⟩
  have hlive : ∀ k b, live (H ++ [x]) (pushPl H.length pl p) k b → (k < H.length ∧ live H pl k b) ∨ (k = H.length ∧ w.heap.size ≤ b) := fun k b ⟨⟨y, hy, hl⟩, c, hc⟩ => by
    rcases hold k y hy with ⟨hk, e, hp⟩ | ⟨hk, rfl, hp⟩
    · exact .inl ⟨hk, ⟨y, e, hl⟩, c, by rwa [hp] at hc⟩
    · exact .inr ⟨hk, hx.lt (hp.symm.trans hc)⟩
  refine ⟨⟨fun k cs e => ?_, fun k e sz ver bv es q => ?_, fun k k' b l l' => ?_, fun a u e k l => ?_⟩, fun a u e => ?_, h.below.trans (hb.mono h.base), Nat.le_trans h.base hb.size, hG _ (h.below.trans (hb.mono h.base))⟩
  · rcases hold k _ e with ⟨hk, e, hp⟩ | ⟨hk, rfl, hp⟩
    · obtain ⟨b, c, us, t, h1, h2, h3, h4, h5⟩ := hF.var k cs e
      exact ⟨b, c, us, t, by rw [hp]; exact h1, h2, h3, h4.mono fun _ _ r => r.mono hE, h5⟩
    · obtain ⟨b, c, us, t, h1, h2, h3, h4, h5⟩ := hx'
      exact ⟨b, c, us, t, by rw [hp]; exact h1, h2, h3, h4, h5⟩
  · rcases hold k _ q with ⟨hk, q, hp⟩ | ⟨hk, rfl, hp⟩
    · obtain ⟨h1, h2, h3, h4, xs, h5, h6, h7⟩ := hF.grow k e sz ver bv es q
      rw [hp]
      exact ⟨h1, h2, h3, h4, xs, h5, h6.mono fun _ _ r => r.mono hE, h7⟩
    · rw [hp]
      exact hx'
  · rcases hlive k b l with ⟨hk, l⟩ | ⟨hk, hb1⟩ <;> rcases hlive k' b l' with ⟨hk', l'⟩ | ⟨hk', hb2⟩
    · exact h.h.apart k k' b l l'
    · have := (h.h.lt l).2; omega
    · have := (h.h.lt l').2; omega
    · omega
  · rcases hlive k _ l with ⟨hk, l⟩ | ⟨hk, hb1⟩
    · exact hF.sep a u e k l
    · have := World.block_lt_of_cell? w _ (h.imm a u e)
      omega
  · rw [hb.cell (World.block_lt_of_cell? w _ (h.imm a u e))]
    exact h.imm a u e

/-- A block that turns. -/
theorem WRel.turn (hG : ∀ w', Below B w0 w' → G w') (h : WRel G B w0 S H pl w) {k : Nat} {x y : Blk} {p : Option (Nat × Nat)} {w' : World} (hk : H[k]? = some x) (hE : Ext B S H pl S (H.set k y) (pushPl k pl p))
    (hsz : w.heap.size ≤ w'.heap.size) (hos : w'.os = w.os) (htape : w'.tape = w.tape) (hout : w'.output = w.output)
    (hb : ∀ b, b < w.heap.size → (∀ c, pl k ≠ some (b, c)) → w'.heap[b]? = w.heap[b]?)
    (hx : BlkOk S H pl B w' p y) (hp : ∀ b c, p = some (b, c) → w.heap.size ≤ b ∨ ∃ c', pl k = some (b, c')) (hlx : x.lives) : WRel G B w0 S (H.set k y) (pushPl k pl p) w' := by
  have hkl : k < H.length := (List.getElem?_eq_some_iff.1 hk).1
  have hx' := hx.mono hE
  have hkeep : ∀ j b, j ≠ k → live H pl j b → w'.heap[b]? = w.heap[b]? := fun j b hj l => by
    refine hb b (h.h.lt l).2 fun c hc => ?_
    exact absurd (h.h.apart j k b l ⟨⟨x, hk, hlx⟩, c, hc⟩) hj
  have hold : ∀ j z, (H.set k y)[j]? = some z → (j ≠ k ∧ H[j]? = some z ∧ pushPl k pl p j = pl j) ∨ (j = k ∧ z = y ∧ pushPl k pl p j = p) := fun j z e => by
    by_cases hj : j = k
    · subst hj
      rw [List.getElem?_set_self hkl] at e
      exact .inr ⟨rfl, (Option.some.inj e).symm, by simp [pushPl]⟩
    · rw [List.getElem?_set_ne (Ne.symm hj)] at e
      exact .inl ⟨hj, e, by simp [pushPl, hj]⟩
  have hB : Below B w0 w' := by
    refine h.below.trans ⟨hos, htape, hout, hsz, fun b hbB => ?_⟩
    refine hb b (Nat.lt_of_lt_of_le hbB h.base) fun c hc => ?_
    have := (h.h.lt (k := k) (b := b) ⟨⟨x, hk, hlx⟩, c, hc⟩).1
    exact absurd hbB (Nat.not_lt.2 this)
  have hlive : ∀ j b, live (H.set k y) (pushPl k pl p) j b → (j ≠ k ∧ live H pl j b) ∨ (j = k ∧ (w.heap.size ≤ b ∨ live H pl k b)) := fun j b ⟨⟨z, hz, hl⟩, c, hc⟩ => by
    rcases hold j z hz with ⟨hj, e, hq⟩ | ⟨hj, rfl, hq⟩
    · exact .inl ⟨hj, ⟨z, e, hl⟩, c, by rwa [hq] at hc⟩
    · refine .inr ⟨hj, ?_⟩
      rw [hq] at hc
      rcases hp b c hc with h1 | ⟨c', h1⟩
      · exact .inl h1
      · exact .inr ⟨⟨x, hk, hlx⟩, c', h1⟩
  refine ⟨⟨fun j cs e => ?_, fun j e sz ver bv es q => ?_, fun j j' b l l' => ?_, fun a u e j l => ?_⟩, fun a u e => ?_, hB, Nat.le_trans h.base hsz, hG _ hB⟩
  · rcases hold j _ e with ⟨hj, e, hq⟩ | ⟨hj, rfl, hq⟩
    · obtain ⟨b, c, us, t, h1, h2, h3, h4, h5⟩ := h.h.var j cs e
      exact ⟨b, c, us, t, by rw [hq]; exact h1, h2, by rw [hkeep j b hj ⟨⟨_, e, trivial⟩, c, h1⟩]; exact h3, h4.mono fun _ _ r => r.mono hE, h5⟩
    · obtain ⟨b, c, us, t, h1, h2, h3, h4, h5⟩ := hx'
      exact ⟨b, c, us, t, by rw [hq]; exact h1, h2, h3, h4, h5⟩
  · rcases hold j _ q with ⟨hj, q, hq⟩ | ⟨hj, rfl, hq⟩
    · obtain ⟨h1, h2, h3, h4, xs, h5, h6, h7⟩ := h.h.grow j e sz ver bv es q
      rw [hq]
      refine ⟨h1, h2, h3, h4, xs, ⟨h5.1, ?_⟩, h6.mono fun _ _ r => r.mono hE, h7⟩
      rcases h5.2 with h5 | ⟨g, cap, cur, hv, hBg, hg, r⟩
      · exact .inl h5
      · refine .inr ⟨g, cap, cur, hv, hBg, ?_, r⟩
        have hpj : pl j = some (g, cap) := by
          cases hpl : pl j with
          | none => rw [hpl] at hv; simp [slv] at hv
          | some bc => rw [hpl] at hv; simp [slv] at hv; rw [← hv.1, ← hv.2]
        rw [hkeep j g hj ⟨⟨_, q, trivial⟩, cap, hpj⟩]
        exact hg
    · rw [hq]
      exact hx'
  · rcases hlive j b l with ⟨hj, l⟩ | ⟨hj, hb1⟩ <;> rcases hlive j' b l' with ⟨hj', l'⟩ | ⟨hj', hb2⟩
    · exact h.h.apart j j' b l l'
    · rcases hb2 with hb2 | hb2
      · have := (h.h.lt l).2; omega
      · rw [hj']; exact h.h.apart j k b l hb2
    · rcases hb1 with hb1 | hb1
      · have := (h.h.lt l').2; omega
      · rw [hj]; exact h.h.apart k j' b hb1 l'
    · omega
  · rcases hlive j _ l with ⟨hj, l⟩ | ⟨hj, hb1 | hb1⟩
    · exact h.h.sep a u e j l
    · have := World.block_lt_of_cell? w _ (h.imm a u e)
      omega
    · exact h.h.sep a u e k hb1
  · have hlt := World.block_lt_of_cell? w _ (h.imm a u e)
    rw [World.cell?_of_block (hb a.block hlt fun c hc => (h.h.sep a u e k ⟨⟨x, hk, hlx⟩, c, hc⟩).elim)]
    exact h.imm a u e
end
end Go.Proofs.YtalkodandfjkmaaDoor.Av

/- The interpreter's operations that make or write memory, one by one. -/
set_option linter.unusedVariables false
set_option linter.unusedSimpArgs false
namespace Go.Proofs.YtalkodandfjkmaaDoor.Av
open Go Go.RowKit
variable {P : Program}
section
variable {S : Sto} {H : List Blk} {pl : Pl} {G : World → Prop} {B : Nat} {w0 w : World} {C : Ctx}

theorem atom_one {x : AV} {u : Value} (h : x.atom = true) (r : Rep S H pl x u) : u.oneCell' = true := by
  cases x with
  | any => simp [AV.atom] at h
  | v y => rw [r.v_inv]; simpa [AV.atom] using h
  | lst sz n m get => cases r with | val _ _ r => cases r <;> rfl
  | z b sz => cases r with | val _ _ r => cases r <;> rfl
  | ept cs => cases r with | val _ _ r => cases r; rfl
  | own id ver => cases r with
    | val _ _ r => cases r
    | own _ _ _ _ h1 => exact h1
  | gpt _ _ _ _ => cases r with
    | val _ _ r => cases r
    | gpt _ _ _ _ _ _ h1 => exact h1
  | ptr _ _ => cases r with
    | val _ _ r => cases r
    | ptr _ _ _ _ h1 => exact h1
  | agg cs => simp [AV.atom] at h
  | tup cs => simp [AV.atom] at h
  | fn f cs => obtain ⟨us, rfl, _⟩ := r.fn_inv; rfl
  | ifc t y => obtain ⟨v, rfl, _⟩ := r.ifc_inv; rfl
theorem cells_one {u : Value} (h : u.oneCell' = true) : u.cells = #[u] := by cases u <;> first | rfl | simp [Value.oneCell'] at h

theorem Cs.atoms {cs : List AV} {us : List Value} (h : Cs (Rep S H pl) cs us) (ha : cs.all AV.atom = true) : ∀ u ∈ us, u.oneCell' = true := by
  intro u hu
  obtain ⟨j, hj⟩ := List.mem_iff_getElem?.1 hu
  have hlt : j < cs.length := by rw [← h.1]; exact (List.getElem?_eq_some_iff.1 hj).1
  have hg : cs[j]? = some cs[j] := List.getElem?_eq_getElem hlt
  exact atom_one (List.all_eq_true.1 ha _ (List.mem_of_getElem? hg)) (h.2 j _ u hg hj)

theorem cells_rep {x : AV} {u : Value} (r : Rep S H pl x u) (ha : x.cells.all AV.atom = true) : Cs (Rep S H pl) x.cells u.cells.toList ∧ (∀ v ∈ u.cells.toList, v.oneCell' = true) ∧ ∀ n, x.cells.length = n → u.cells.size = n := by
  have key : Cs (Rep S H pl) x.cells u.cells.toList := by
    cases x with
    | agg cs => obtain ⟨us, rfl, k⟩ := r.agg_inv; exact k
    | _ =>
      have h1 : u.oneCell' = true := atom_one (by simpa [AV.cells] using ha) r
      rw [cells_one h1]
      exact Cs.one r
  exact ⟨key, key.atoms ha, fun n hn => by rw [← Array.length_toList, key.1, hn]⟩

theorem zero_info (hT : TdOk P C) {t : Nat} {zs : List Value} (e : (C.td t).zero = some zs) : ∃ i z, P.info? t = some i ∧ i.zero = some z ∧ z.cells = zs.toArray ∧ i.size = zs.length ∧ ∀ z ∈ zs, z.oneCell' = true := by
  cases hd : C.td t with
  | one z =>
    rw [hd] at e
    simp [TD.zero] at e
    subst e
    obtain ⟨_, i, hi, hs, hz, h1, hc⟩ := hT.one t z hd
    exact ⟨i, z, hi, hz, hc, hs, by simpa using h1⟩
  | agg sz fs zs' =>
    rw [hd] at e
    simp [TD.zero] at e
    subst e
    obtain ⟨flds, i, hu, hi, hs, hz, hl, _, h1, _⟩ := hT.agg t _ _ _ hd
    exact ⟨i, _, hi, hz, rfl, by rw [hs, hl], h1⟩
  | sl e' sz by' =>
    rw [hd] at e
    simp [TD.zero] at e
    subst e
    obtain ⟨_, _, _, i, hi, hs, hz⟩ := hT.sl t _ _ _ hd
    exact ⟨i, _, hi, hz, rfl, hs, by simp [Value.oneCell']⟩
  | no => rw [hd] at e; simp [TD.zero] at e

theorem op_alloc {tmps : List AV} {a : Act} {o : Oper} {t : Nat} {zs : List Value} (hG : ∀ w', Below B w0 w' → G w') (hT : TdOk P C) (ht : TRel S H pl tmps a) (h : WRel G B w0 S H pl w) (ho : o.op = .alloc t) (e : (C.td t).zero = some zs) :
    OpW P G B w0 o a S H pl w (.ptr H.length 0) (H ++ [.var (zAV (C.zz t) zs)]) := by
  obtain ⟨i, z, hi, hz, hc, hs, h1⟩ := zero_info hT e
  have hr : (execOp a.eval o).run P w = .ok (.value (.pointer (some ⟨w.heap.size, 0, none⟩))) (w.alloc (.cells zs.toArray t)) := by
    simp [execOp, ho, Instr.alloc, zeroValue, typeInfo, hi, hz, newVar, newRow, hc]
  refine .run hr push_ext (h.push hG ((Below.refl _ _).alloc (Nat.le_refl _) _) (p := some (w.heap.size, 0)) ⟨_, _, zs, t, rfl, Nat.le_refl _, heap_alloc_new w _, (zAV_rep _ _).mono fun x u r => .val _ _ r, h1⟩) (.ptr _ _ _ (by simp) rfl fun cs q => ⟨w.heap.size, 0, by simp [pushPl], rfl⟩)

theorem op_box {tmps : List AV} {a : Act} {o : Oper} {t : Nat} {x : Operand} (hG : ∀ w', Below B w0 w' → G w') (ht : TRel S H pl tmps a) (h : WRel G B w0 S H pl w) (ho : o.op = .box t x) (e : (evA tmps x).cells.all AV.atom = true) :
    OpW P G B w0 o a S H pl w (.ptr H.length 0) (H ++ [.var (evA tmps x).cells]) := by
  obtain ⟨hc, h1, _⟩ := cells_rep (ht.ev x) e
  have hr : (execOp a.eval o).run P w = .ok (.value (.pointer (some ⟨w.heap.size, 0, none⟩))) (w.alloc (.cells (a.eval x).cells t)) := by
    simp [execOp, ho, Instr.box, newVar, newRow]
  refine .run hr push_ext (h.push hG ((Below.refl _ _).alloc (Nat.le_refl _) _) (p := some (w.heap.size, 0)) ⟨_, _, (a.eval x).cells.toList, t, rfl, Nat.le_refl _, by rw [Array.toArray_toList]; exact heap_alloc_new w _, hc, h1⟩) (.ptr _ _ _ (by simp) rfl fun cs q => ⟨w.heap.size, 0, by simp [pushPl], rfl⟩)

theorem op_nil {tmps : List AV} {a : Act} {o : Oper} {e sz by_ : Nat} (hG : ∀ w', Below B w0 w' → G w') (hT : TdOk P C) (ht : TRel S H pl tmps a) (h : WRel G B w0 S H pl w) (ho : o.op = .assign (.const (.slice none 0 0))) (htd : C.td o.type = .sl e sz by_) :
    OpW P G B w0 o a S H pl w (.own H.length 0) (H ++ [.grow e sz 0 true []]) := by
  obtain ⟨_, h0, _⟩ := hT.sl _ _ _ _ htd
  have hr : (execOp a.eval o).run P w = .ok (.value (.slice none 0 0)) w := by simp [execOp, ho, Act.eval]
  refine .run hr push_ext (h.push hG (Below.refl _ _) (p := none) ⟨h0, by simp, fun _ => rfl, by simp, [], World.ownsRow_nil _ _ _ _, Cs.nil, by simp⟩) (.own _ _ _ (by simp) rfl fun e' sz' v bv es q => ?_)
  simp at q
  obtain ⟨rfl, rfl, rfl, rfl, rfl⟩ := q
  simp [pushPl, slv]

/-- A new list's variable: the list is an own one, without elements. -/
theorem op_alloc_sl {tmps : List AV} {a : Act} {o : Oper} {t e sz by_ : Nat} (hG : ∀ w', Below B w0 w' → G w') (hT : TdOk P C) (ht : TRel S H pl tmps a) (h : WRel G B w0 S H pl w) (ho : o.op = .alloc t) (htd : C.td t = .sl e sz by_) :
    OpW P G B w0 o a S H pl w (.ptr (H.length + 1) 0) (H ++ [.grow e sz 0 true [], .var [.own H.length 0]]) := by
  obtain ⟨_, h0, _, i, hi, hs, hz⟩ := hT.sl _ _ _ _ htd
  have hr : (execOp a.eval o).run P w = .ok (.value (.pointer (some ⟨w.heap.size, 0, none⟩))) (w.alloc (.cells #[.slice none 0 0] t)) := by
    simp [execOp, ho, Instr.alloc, zeroValue, typeInfo, hi, hz, newVar, newRow, Value.cells]
  have h1 := h.push hG (Below.refl _ _) (p := none) (x := .grow e sz 0 true []) ⟨h0, by simp, fun _ => rfl, by simp, [], World.ownsRow_nil _ _ _ _, Cs.nil, by simp⟩
  have hR : Rep S (H ++ [Blk.grow e sz 0 true []]) (pushPl H.length pl none) (.own H.length 0) (.slice none 0 0) := .own _ _ _ (by simp) rfl fun e' sz' v bv es q => by
    simp at q
    obtain ⟨rfl, rfl, rfl, rfl, rfl⟩ := q
    simp [pushPl, slv]
  have h2 := h1.push hG ((Below.refl _ _).alloc (Nat.le_refl _) _) (p := some (w.heap.size, 0)) (x := .var [.own H.length 0]) ⟨_, _, [.slice none 0 0], t, rfl, Nat.le_refl _, heap_alloc_new w _, Cs.one hR, by simp [Value.oneCell']⟩
  have hE : Ext B S H pl S ((H ++ [Blk.grow e sz 0 true []]) ++ [Blk.var [.own H.length 0]]) (pushPl (H ++ [Blk.grow e sz 0 true []]).length (pushPl H.length pl none) (some (w.heap.size, 0))) := push_ext.trans push_ext
  rw [List.append_assoc] at hE h2
  refine .run hr hE h2 (.ptr _ _ _ (by simp) rfl fun cs q => ⟨w.heap.size, 0, by simp [pushPl], rfl⟩)

/-! ### Stores -/
theorem run_store_row {t : Nat} {b o : Nat} {u : Value} {cur : Array Value} {e : TypeId} {i : TypeInfo} (hi : P.info? t = some i) (hs : i.size = u.cells.size) (hb : w.heap[b]? = some (.cells cur e (0, 0))) (hl : o + u.cells.size ≤ cur.size) (h1 : ∀ v ∈ u.cells.toList, v.oneCell' = true) :
    (Instr.storeAt t (.pointer (some ⟨b, o, none⟩)) u).run P w = .ok () (w.setRow b (cur.toList.take o ++ u.cells.toList ++ cur.toList.drop (o + u.cells.size)).toArray) := by
  have := run_storeCells_at (P := P) b o e u.cells.toList 0 cur w hb (by simpa using hl) h1
  simp only [Nat.add_zero, Array.length_toList] at this
  simp [Instr.storeAt, Instr.sureAddr, storeVar, sizeOf, typeInfo, hi, hs, this]

theorem Cs.splice {R : AV → Value → Prop} {cs ds : List AV} {us vs : List Value} (h : Cs R cs us) (k : Cs R ds vs) (o : Nat) : Cs R (splice cs o ds) (us.take o ++ vs ++ us.drop (o + vs.length)) := by
  unfold Av.splice
  rw [← k.1]
  exact ((h.take o).append k).append (h.drop _)

theorem td_size (hT : TdOk P C) {t n : Nat} (e : (C.td t).size = n) (hn : 0 < n) : ∃ i, P.info? t = some i ∧ i.size = n := by
  cases hd : C.td t with
  | one z => obtain ⟨_, i, hi, hs, _⟩ := hT.one t z hd; rw [hd] at e; exact ⟨i, hi, by rw [hs]; exact e⟩
  | agg sz fs zs => obtain ⟨_, i, _, hi, hs, _⟩ := hT.agg t _ _ _ hd; rw [hd] at e; exact ⟨i, hi, by rw [hs]; exact e⟩
  | sl e' sz by' => obtain ⟨_, _, _, i, hi, hs, _⟩ := hT.sl t _ _ _ hd; rw [hd] at e; exact ⟨i, hi, by rw [hs]; exact e⟩
  | no => rw [hd] at e; simp [TD.size] at e; omega

theorem set_ext_var {k : Nat} {cs ds : List AV} (hk : H[k]? = some (.var cs)) : Ext B S H pl S (H.set k (.var ds)) (pushPl k pl (pl k)) := by
  have hp : ∀ j, pushPl k pl (pl k) j = pl j := fun j => by unfold pushPl; split <;> simp_all
  have hkl : k < H.length := (List.getElem?_eq_some_iff.1 hk).1
  refine ⟨fun a u e => .inl e, S.le_refl, by simp, fun j cs' hj e => ?_, fun j e sz ver bv es hj q => ?_⟩
  · by_cases hjk : j = k
    · subst hjk; exact ⟨cs, hk, hp _⟩
    · rw [List.getElem?_set_ne (Ne.symm hjk)] at e; exact ⟨cs', e, hp _⟩
  · by_cases hjk : j = k
    · subst hjk; rw [List.getElem?_set_self hkl] at q; cases q
    · rw [List.getElem?_set_ne (Ne.symm hjk)] at q; exact ⟨e, ver, bv, es, q, Nat.le_refl _, fun _ => ⟨rfl, hp _⟩⟩
theorem set_ext_grow {k : Nat} {e sz ver : Nat} {bv bv' : Bool} {es es' : List (List AV)} (hk : H[k]? = some (.grow e sz ver bv es)) (hl : es'.length = es.length) : Ext B S H pl S (H.set k (.grow e sz ver bv' es')) (pushPl k pl (pl k)) := by
  have hp : ∀ j, pushPl k pl (pl k) j = pl j := fun j => by unfold pushPl; split <;> simp_all
  have hkl : k < H.length := (List.getElem?_eq_some_iff.1 hk).1
  refine ⟨fun a u e => .inl e, S.le_refl, by simp, fun j cs' hj q => ?_, fun j e2 sz2 ver2 bv2 es2 hj q => ?_⟩
  · by_cases hjk : j = k
    · subst hjk; rw [List.getElem?_set_self hkl] at q; cases q
    · rw [List.getElem?_set_ne (Ne.symm hjk)] at q; exact ⟨cs', q, hp _⟩
  · by_cases hjk : j = k
    · subst hjk
      rw [List.getElem?_set_self hkl] at q
      cases q
      exact ⟨e, ver, bv, es, hk, Nat.le_refl _, fun _ => ⟨hl, hp _⟩⟩
    · rw [List.getElem?_set_ne (Ne.symm hjk)] at q; exact ⟨e2, ver2, bv2, es2, q, Nat.le_refl _, fun _ => ⟨rfl, hp _⟩⟩

theorem flatten_set : ∀ (es : List (List AV)) (sz i : Nat) (c : List AV) (off : Nat) (ds : List AV), (∀ c ∈ es, c.length = sz) → es[i]? = some c → off + ds.length ≤ sz →
    (es.set i (splice c off ds)).flatten = splice es.flatten (i * sz + off) ds
  | [], sz, i, c, off, ds, _, h, _ => by simp at h
  | d :: es, sz, 0, c, off, ds, hl, h, ho => by
    simp at h
    subst h
    have hd := hl d List.mem_cons_self
    simp only [List.set_cons_zero, List.flatten_cons, splice, Nat.zero_mul, Nat.zero_add]
    rw [List.take_append_of_le_length (by omega), List.drop_append_of_le_length (by omega)]
    simp
  | d :: es, sz, i + 1, c, off, ds, hl, h, ho => by
    have hd := hl d List.mem_cons_self
    simp only [List.getElem?_cons_succ] at h
    have ih := flatten_set es sz i c off ds (fun c hc => hl c (List.mem_cons_of_mem _ hc)) h ho
    simp only [List.set_cons_succ, List.flatten_cons, ih]
    unfold splice
    have e1 : (i + 1) * sz + off = d.length + (i * sz + off) := by rw [hd, Nat.add_mul]; omega
    rw [e1, List.take_length_add_append, show d.length + (i * sz + off) + ds.length = d.length + (i * sz + (off + ds.length)) by omega, List.drop_length_add_append, show i * sz + off + ds.length = i * sz + (off + ds.length) by omega]
    simp

theorem splice_length {cs ds : List AV} {o : Nat} (h : o + ds.length ≤ cs.length) : (splice cs o ds).length = cs.length := by
  unfold splice
  simp
  omega

theorem hbs_append (n : Nat) : ∀ cs ds : List AV, AV.hbs n (cs ++ ds) = (AV.hbs n cs && AV.hbs n ds)
  | [], ds => by simp [AV.hbs]
  | x :: cs, ds => by simp [AV.hbs, hbs_append n cs ds, Bool.and_assoc]
theorem hbs_take (n k : Nat) (cs : List AV) (h : AV.hbs n cs = true) : AV.hbs n (cs.take k) = true := by
  rw [← List.take_append_drop k cs, hbs_append, Bool.and_eq_true] at h
  exact h.1
theorem hbs_drop (n k : Nat) (cs : List AV) (h : AV.hbs n cs = true) : AV.hbs n (cs.drop k) = true := by
  rw [← List.take_append_drop k cs, hbs_append, Bool.and_eq_true] at h
  exact h.2
theorem hbs_splice (n : Nat) (cs ds : List AV) (o : Nat) (h : AV.hbs n cs = true) (k : AV.hbs n ds = true) : AV.hbs n (splice cs o ds) = true := by
  unfold splice
  rw [hbs_append, hbs_append, hbs_take n o cs h, k, hbs_drop n _ cs h]
  rfl

theorem take_splice (L V : List Value) (o N : Nat) (h : o + V.length ≤ N) (hN : N ≤ L.length) : (L.take o ++ V ++ L.drop (o + V.length)).take N = (L.take N).take o ++ V ++ (L.take N).drop (o + V.length) := by
  have e1 : (L.take N).take o = L.take o := by rw [List.take_take]; congr 1; omega
  have e2 : L.drop (o + V.length) = (L.take N).drop (o + V.length) ++ L.drop N := by
    conv => lhs; rw [← List.take_append_drop N L]
    rw [List.drop_append_of_le_length (by simp; omega)]
  rw [e1, e2, ← List.append_assoc]
  refine List.take_left' ?_
  simp
  omega

theorem zsl_rep {S : Sto} {H : List Blk} {pl : Pl} {d : TD} {y : AV} {v : Value} (h : Rep S H pl y v) : Rep S H pl (zsl d y) v := by
  unfold zsl
  split
  · cases h with
    | val _ _ r => cases r with
      | v => exact .val _ _ (.znil _ _)
  · exact h

theorem dz_rep {S : Sto} {H : List Blk} {pl : Pl} {xs : List AV} {us : List Value} (h : Cs (Rep S H pl) xs us) : Cs (Rep S H pl) (xs.map dz) us := by
  refine ⟨by rw [List.length_map]; exact h.1, fun j y u hy hu => ?_⟩
  rw [List.getElem?_map] at hy
  cases hx : xs[j]? with
  | none => rw [hx] at hy; cases hy
  | some x =>
    rw [hx] at hy
    obtain rfl := Option.some.inj hy
    have r := h.2 j x u hx hu
    unfold dz
    split
    · cases r with
      | val _ _ r => cases r with
        | znil => exact .val _ _ (.nil _ _)
        | zsome => exact .val _ _ (.lst _ 0 0 _ _ 0 (fun _ _ => undef) (Nat.le_refl _) (Nat.le_refl _) (fun i hi => absurd hi (Nat.not_lt_zero _)) (fun i j hi => absurd hi (Nat.not_lt_zero _)) (fun i j x hi => absurd hi (Nat.not_lt_zero _)) (fun i j hi => absurd hi (Nat.not_lt_zero _)))
    · exact r
theorem store_sound (hG : ∀ w', Below B w0 w' → G w') (hT : TdOk P C) (h : WRel G B w0 S H pl w) {t : Nat} {x y : AV} {u v : Value} {H' : List Blk} (hx : Rep S H pl x u) (hy : Rep S H pl y v) (e : storeA C t x y H = some H') :
    ∃ w' pl', (Instr.storeAt t u v).run P w = .ok () w' ∧ Ext B S H pl S H' pl' ∧ WRel G B w0 S H' pl' w' := by
  unfold storeA at e
  simp only at e
  split at e
  · rename_i hc
    obtain ⟨hz, hlen, hat⟩ := hc
    obtain ⟨hcv, h1, hsz⟩ := cells_rep hy hat
    have hsz := hsz _ rfl
    split at e
    · rename_i k off
      split at e
      · rename_i cs hH
        split at e
        · rename_i hle
          obtain rfl := Option.some.inj e
          obtain ⟨b, c, us, t', hp, hB, hh, hcu, hone⟩ := h.h.var k cs hH
          have hu : u = .pointer (some ⟨b, off, none⟩) := by
            cases hx with
            | val _ _ r => cases r
            | ptr _ _ _ hi _ hq =>
              obtain ⟨b', c', hp', hu⟩ := hq _ hH
              rw [hp] at hp'
              cases hp'
              exact hu
          subst hu
          obtain ⟨i, hi, his⟩ := td_size hT hlen.symm hz
          have hr := run_store_row (P := P) (o := off) hi (by rw [his, hsz]) hh (by rw [hsz]; simp; rw [hcu.1]; omega) h1
          refine ⟨_, _, hr, set_ext_var hH, ?_⟩
          refine h.turn hG hH (set_ext_var hH) (by simp) rfl rfl rfl (fun b' hb' hne => setRow_other _ _ _ _ (fun hbb => hne c (by rw [hbb]; exact hp))) ⟨b, c, _, t', hp, hB, setRow_heap w b _ _ t' _ hh, ?_, ?_⟩ (fun b' c' hp' => .inr ⟨c', hp'⟩) trivial
          · have := hcu.splice hcv off
            rwa [Array.length_toList] at this
          · intro z hz'
            rw [List.append_assoc] at hz'
            rcases List.mem_append.1 hz' with hz' | hz'
            · exact hone z (List.mem_of_mem_take hz')
            · rcases List.mem_append.1 hz' with hz' | hz'
              · exact h1 z hz'
              · exact hone z (List.mem_of_mem_drop hz')
        · cases e
      · cases e
    · rename_i id ver j off
      split at e
      · rename_i e' sz ver' bv es hH
        split at e
        · rename_i hv
          subst hv
          split at e
          · rename_i c hc
            split at e
            · rename_i hle
              obtain rfl := Option.some.inj e
              obtain ⟨h0, hl, hn, hbv, xs, ho, hcu, hone⟩ := h.h.grow id _ _ _ _ _ hH
              have hcl := hl c (List.mem_of_getElem? hc)
              obtain ⟨b, cap, hp, hu⟩ : ∃ b cap, pl id = some (b, cap) ∧ u = .pointer (some ⟨b, j * sz + off, none⟩) := by
                cases hx with
                | val _ _ r => cases r
                | gpt _ _ _ _ _ hi _ hq => exact (hq _ _ _ _ _ hH).2 rfl
              subst hu
              obtain ⟨i, hi, his⟩ := td_size hT hlen.symm hz
              have hjl : j < es.length := (List.getElem?_eq_some_iff.1 hc).1
              have hoff : j * sz + off + y.cells.length ≤ es.length * sz := by
                have : (j + 1) * sz ≤ es.length * sz := Nat.mul_le_mul_right _ hjl
                rw [Nat.add_mul] at this
                omega
              rcases ho.2 with ⟨hq, _⟩ | ⟨g, cap', cur, hq, hBg, hg, hnc, hcm, hcs, htake⟩
              · rw [hp] at hq; simp [slv] at hq
              · rw [hp] at hq
                simp [slv] at hq
                obtain ⟨rfl, rfl⟩ := hq
                have hcap : es.length * sz ≤ cur.size := by rw [hcs]; exact Nat.mul_le_mul_right _ hnc
                have hr := run_store_row (P := P) (o := j * sz + off) hi (by rw [his, hsz]) hg (by rw [hsz]; omega) h1
                have hlen' : (es.set j (splice c off (y.cells.map dz))).length = es.length := by simp
                refine ⟨_, _, hr, set_ext_grow hH hlen', ?_⟩
                refine h.turn hG hH (set_ext_grow hH hlen') (by simp) rfl rfl rfl (fun b' hb' hne => setRow_other _ _ _ _ (fun hbb => hne cap (by rw [hbb]; exact hp))) ⟨h0, ?_, by rw [hp]; simp, ?_, xs.take (j * sz + off) ++ v.cells.toList ++ xs.drop (j * sz + off + v.cells.toList.length), ⟨?_, .inr ⟨b, cap, _, by rw [hp, hlen']; rfl, hBg, setRow_heap w b _ _ e' _ hg, by rw [hlen']; exact hnc, hcm, ?_, ?_⟩⟩, ?_, ?_⟩ (fun b' c' hp' => .inr ⟨c', hp'⟩) trivial
                · intro d hd
                  rcases List.mem_or_eq_of_mem_set hd with hd | rfl
                  · exact hl d hd
                  · rw [splice_length (by rw [List.length_map]; exact hle), hcl]
                · intro hb d hd
                  rw [Bool.and_eq_true] at hb
                  rcases List.mem_or_eq_of_mem_set hd with hd | rfl
                  · exact hbv hb.1 d hd
                  · exact hbs_splice 0 _ _ _ (hbv hb.1 c (List.mem_of_getElem? hc)) hb.2
                · have := ho.1
                  simp only [List.length_append, List.length_take, List.length_drop, Array.length_toList, hsz, hlen']
                  omega
                · simp only [List.size_toArray, List.length_append, List.length_take, List.length_drop, Array.length_toList, hsz]
                  omega
                · have hvs : v.cells.size = v.cells.toList.length := Array.length_toList.symm
                  rw [hlen', ← htake, hvs]
                  have hvl : v.cells.toList.length = y.cells.length := by rw [Array.length_toList, hsz]
                  exact take_splice _ _ _ _ (by rw [hvl]; omega) (by simpa using hcap)
                · rw [flatten_set es sz j c off (y.cells.map dz) hl hc (by rw [← hcl, List.length_map]; exact hle)]
                  exact hcu.splice (dz_rep hcv) _
                · intro z hz'
                  rw [List.append_assoc] at hz'
                  rcases List.mem_append.1 hz' with hz' | hz'
                  · exact hone z (List.mem_of_mem_take hz')
                  · rcases List.mem_append.1 hz' with hz' | hz'
                    · exact h1 z hz'
                    · exact hone z (List.mem_of_mem_drop hz')
            · cases e
          · cases e
        · cases e
      · cases e
    · cases e
  · cases e
end
end Go.Proofs.YtalkodandfjkmaaDoor.Av

/- Literals, appends, and the interpreter's step, whole. -/
set_option linter.unusedVariables false
set_option linter.unusedSimpArgs false
namespace Go.Proofs.YtalkodandfjkmaaDoor.Av
open Go Go.RowKit
variable {P : Program}
section
variable {S : Sto} {H : List Blk} {pl : Pl} {G : World → Prop} {B : Nat} {w0 w : World} {C : Ctx}

theorem foldl_lay (off : Nat) : ∀ (v : List Value) (k : Nat) (z : Array Value), off + k + v.length ≤ z.size →
    ((v.zipIdx k).foldl (fun cs (x : Value × Nat) => cs.setIfInBounds (off + x.2) x.1) z).toList = z.toList.take (off + k) ++ v ++ z.toList.drop (off + k + v.length)
  | [], k, z, h => by simp
  | c :: v, k, z, h => by
    simp only [List.length_cons] at h
    rw [List.zipIdx_cons, List.foldl_cons, foldl_lay off v (k + 1) _ (by simp; omega)]
    simp only [Array.toList_setIfInBounds, List.length_cons]
    have hlen : off + k < z.toList.length := by simp; omega
    rw [show off + (k + 1) = off + k + 1 by omega, List.take_succ_eq_append_getElem (by simp; omega), List.take_set_of_le (by omega)]
    simp only [List.getElem_set_self, List.append_assoc, List.singleton_append]
    rw [List.drop_set_of_lt (by omega), show off + k + 1 + v.length = off + k + (v.length + 1) by omega]

/-- Numbered parts, here and there. -/
def Ps (R : AV → Value → Prop) : List (Nat × AV) → List (Nat × Value) → Prop
  | [], [] => True
  | (i, x) :: r, (j, u) :: s => i = j ∧ R x u ∧ Ps R r s
  | _, _ => False

theorem zfix_len : ∀ (zs xs : List AV), (zfix zs xs).length = xs.length
  | zs, [] => by cases zs <;> rfl
  | [], x :: s => rfl
  | z :: r, x :: s => by simp [zfix, zfix_len r s]
theorem zfix_get : ∀ (zs xs : List AV) (j : Nat) (y : AV), (zfix zs xs)[j]? = some y → ∃ x, xs[j]? = some x ∧ (y = x ∨ (x = .v (.slice none 0 0) ∧ ∃ k, y = .z true (k + 1)))
  | zs, [], j, y, h => by cases zs <;> simp [zfix] at h
  | [], x :: s, j, y, h => ⟨y, h, .inl rfl⟩
  | z :: r, x :: s, 0, y, h => by
    simp only [zfix, List.getElem?_cons_zero, Option.some.injEq] at h
    refine ⟨x, rfl, ?_⟩
    subst h
    split
    · exact .inr ⟨rfl, _, rfl⟩
    · exact .inl rfl
  | z :: r, x :: s, j + 1, y, h => by
    simp only [zfix, List.getElem?_cons_succ] at h
    obtain ⟨x', h1, h2⟩ := zfix_get r s j y h
    exact ⟨x', h1, h2⟩
theorem zfix_rep (zs : List AV) {xs : List AV} {us : List Value} (h : Cs (Rep S H pl) xs us) : Cs (Rep S H pl) (zfix zs xs) us := by
  refine ⟨by rw [zfix_len]; exact h.1, fun j y u hy hu => ?_⟩
  obtain ⟨x, hx, rfl | ⟨rfl, k, rfl⟩⟩ := zfix_get zs xs j y hy
  · exact h.2 j y u hx hu
  · have := h.2 j _ u hx hu
    cases this with
    | val _ _ r => cases r with
      | v => exact .val _ _ (.znil _ _)
theorem afill_sound {place : Nat → Option (Nat × Nat)} : ∀ (ps : List (Nat × AV)) (vs : List (Nat × Value)) (cs cs' : List AV) (us : List Value), Ps (Rep S H pl) ps vs → Cs (Rep S H pl) cs us → (∀ u ∈ us, u.oneCell' = true) → afill place cs ps = some cs' →
    ∃ us', Instr.fill place us.toArray vs = some us'.toArray ∧ Cs (Rep S H pl) cs' us' ∧ (∀ u ∈ us', u.oneCell' = true) ∧ cs'.length = cs.length
  | [], [], cs, cs', us, _, hc, h1, e => by
    simp [afill] at e
    subst e
    exact ⟨us, rfl, hc, h1, rfl⟩
  | [], _ :: _, _, _, _, h, _, _, _ => h.elim
  | _ :: _, [], _, _, _, h, _, _, _ => h.elim
  | (i, x) :: ps, (j, u) :: vs, cs, cs', us, h, hc, h1, e => by
    obtain ⟨rfl, hx, hr⟩ := h
    simp only [afill] at e
    cases hp : place i with
    | none => simp [hp] at e
    | some os =>
      obtain ⟨off, size⟩ := os
      simp only [hp] at e
      split at e
      · rename_i hb
        obtain ⟨hsz, hle, hat⟩ := hb
        obtain ⟨hcu, hone, hcs⟩ := cells_rep hx hat
        have hus := hcs _ rfl
        have hsp := hc.splice (zfix_rep (cs.drop off) hcu) off
        have hone' : ∀ z ∈ us.take off ++ u.cells.toList ++ us.drop (off + u.cells.toList.length), z.oneCell' = true := by
          intro z hz
          rw [List.append_assoc] at hz
          rcases List.mem_append.1 hz with hz | hz
          · exact h1 z (List.mem_of_mem_take hz)
          · rcases List.mem_append.1 hz with hz | hz
            · exact hone z hz
            · exact h1 z (List.mem_of_mem_drop hz)
        obtain ⟨us', h2, h3, h4, h5⟩ := afill_sound ps vs _ cs' _ hr hsp hone' e
        refine ⟨us', ?_, h3, h4, by rw [h5, splice_length (by rw [zfix_len]; omega)]⟩
        have hl := hc.1
        have hif : ¬ ((u.cells.size ≠ size || off + u.cells.size > us.toArray.size) = true) := by
          simp
          omega
        simp only [Instr.fill, hp, if_neg hif]
        have hf := foldl_lay off u.cells.toList 0 us.toArray (by simp; omega)
        simp only [Nat.add_zero] at hf
        have hf' : u.cells.zipIdx.foldl (fun cs (x : Value × Nat) => cs.setIfInBounds (off + x.2) x.1) us.toArray = (us.take off ++ u.cells.toList ++ us.drop (off + u.cells.toList.length)).toArray := by
          apply Array.ext'
          rw [← Array.foldl_toList, Array.toList_zipIdx, hf]
        rw [hf']
        exact h2
      · cases e

theorem parts_rep {tmps : List AV} {a : Act} (ht : TRel S H pl tmps a) : ∀ ps : List (Nat × Operand), Ps (Rep S H pl) (ps.map fun p => (p.1, evA tmps p.2)) (ps.map fun p => (p.1, a.eval p.2))
  | [] => trivial
  | p :: ps => ⟨rfl, ht.ev p.2, parts_rep ht ps⟩

theorem places_ok : ∀ (flds : List Field) (fs : List (Nat × Nat × Bool)), flds.length = fs.length →
    (∀ (j : Nat) f o s (g : Bool), flds[j]? = some f → fs[j]? = some (o, s, g) → f.offset = o ∧ ∃ i', P.info? f.type = some i' ∧ i'.size = s) →
    flds.mapM (fun f => (P.info? f.type).map fun i => (f.offset, i.size)) = some (fs.map fun f => (f.1, f.2.1))
  | [], [], _, _ => rfl
  | [], _ :: _, h, _ => by simp at h
  | _ :: _, [], h, _ => by simp at h
  | f :: flds, (o, s, g) :: fs, h, k => by
    obtain ⟨h1, i', h2, h3⟩ := k 0 f o s g rfl rfl
    have ih := places_ok flds fs (by simpa using h) fun j f o s g hf hg => k (j + 1) f o s g (by simpa using hf) (by simpa using hg)
    rw [List.mapM_cons, h2, ih]
    simp [h1, h3]

theorem op_build {tmps : List AV} {a : Act} {o : Oper} {t sz : Nat} {parts : Array (Nat × Operand)} {fs : List (Nat × Nat × Bool)} {zs : List Value} {cs : List AV} (hT : TdOk P C) (ht : TRel S H pl tmps a) (h : WRel G B w0 S H pl w) (ho : o.op = .build t parts)
    (htd : C.td t = .agg sz fs zs) (e : afill (fun i => (fs[i]?).map fun f => (f.1, f.2.1)) (zAV (C.zz t) zs) (parts.toList.map fun p => (p.1, evA tmps p.2)) = some cs) : OpW P G B w0 o a S H pl w (.agg cs) H := by
  obtain ⟨flds, i, hu, hi, hs, hz, hl, hpos, h1, hfl, hfs⟩ := hT.agg t _ _ _ htd
  obtain ⟨us, h2, h3, h4, h5⟩ := afill_sound _ _ _ _ _ (parts_rep ht parts.toList) ((zAV_rep (S := S) (C.zz t) zs).mono fun x u r => .val _ _ r) h1 e
  have hpl := places_ok (P := P) flds.toList fs hfl fun j f o s g hf hg => by
    obtain ⟨ha, _, _, hb, _⟩ := hfs j f o s g (by simpa using hf) hg
    exact ⟨ha, hb⟩
  have hbt : P.built t (parts.toList.map fun p => (p.1, a.eval p.2)) = some us.toArray := by
    unfold Program.built
    rw [hi, hu]
    simp only [hz, hpl]
    rw [← h2]
    congr 1
    funext j
    simp
  have hr := run_build (P := P) w t (parts.toList.map fun p => (p.1, a.eval p.2)).toArray us.toArray (by simpa using hbt)
  refine .still h (u := .agg us.toArray) ?_ (.agg _ us h3.1 h3.2)
  have hm : parts.map (fun p => (p.1, a.eval p.2)) = (parts.toList.map fun p => (p.1, a.eval p.2)).toArray := by
    apply Array.ext'
    simp
  simp only [execOp, ho, Sem.run_bind, hm, hr, Result.andThen_ok, Sem.run_pure]

theorem chunks_flatten (sz : Nat) : ∀ (n : Nat) (cs : List AV), cs.length = n * sz → (chunks sz n cs).flatten = cs ∧ (chunks sz n cs).length = n ∧ ∀ c ∈ chunks sz n cs, c.length = sz
  | 0, cs, h => by
    obtain rfl := List.eq_nil_of_length_eq_zero (by simpa using h)
    simp [chunks]
  | n + 1, cs, h => by
    rw [Nat.add_mul] at h
    obtain ⟨h1, h2, h3⟩ := chunks_flatten sz n (cs.drop sz) (by simp; omega)
    refine ⟨by simp [chunks, h1], by simp [chunks, h2], fun c hc => ?_⟩
    simp only [chunks, List.mem_cons] at hc
    rcases hc with rfl | hc
    · simp; omega
    · exact h3 c hc
theorem hbs_chunks (k sz : Nat) : ∀ (n : Nat) (cs : List AV), AV.hbs k cs = true → ∀ c ∈ chunks sz n cs, AV.hbs k c = true
  | 0, cs, h => by simp [chunks]
  | n + 1, cs, h => by
    intro c hc
    simp only [chunks, List.mem_cons] at hc
    rcases hc with rfl | hc
    · exact hbs_take k sz cs h
    · exact hbs_chunks k sz n _ (hbs_drop k sz cs h) c hc

theorem zeros_list (sz : Nat) (z : Array Value) (hz : z.size = sz) (h0 : 0 < sz) : ∀ n, (List.range (n * sz)).map (fun i => z[i % z.size]!) = (List.replicate n z.toList).flatten
  | 0 => by simp
  | n + 1 => by
    rw [Nat.add_mul, Nat.one_mul, Nat.add_comm, List.range_add, List.map_append, List.replicate_succ, List.flatten_cons]
    congr 1
    · apply List.ext_getElem?
      intro j
      by_cases hj : j < sz
      · have : j < z.size := by omega
        simp [hj, Nat.mod_eq_of_lt this, this]
      · simp [hj, List.getElem?_eq_none, hz, Nat.le_of_not_lt hj]
    · rw [List.map_map, ← zeros_list sz z hz h0 n]
      apply List.map_congr_left
      intro j _
      simp [hz]

theorem rep_flatten {R : AV → Value → Prop} {cs : List AV} {us : List Value} (h : Cs R cs us) : ∀ n, Cs R (List.replicate n cs).flatten (List.replicate n us).flatten
  | 0 => Cs.nil
  | n + 1 => by rw [List.replicate_succ, List.replicate_succ, List.flatten_cons, List.flatten_cons]; exact Cs.append h (rep_flatten h n)
theorem map_replicate_flatten (zs : List Value) : ∀ n, (List.replicate n (zs.map AV.v)).flatten = ((List.replicate n zs).flatten).map AV.v
  | 0 => rfl
  | n + 1 => by rw [List.replicate_succ, List.replicate_succ, List.flatten_cons, List.flatten_cons, List.map_append, map_replicate_flatten zs n]

theorem op_buildSlice {tmps : List AV} {a : Act} {o : Oper} {t n e sz by_ : Nat} {parts : Array (Nat × Operand)} {zs : List Value} {cs : List AV} (hG : ∀ w', Below B w0 w' → G w') (hT : TdOk P C) (ht : TRel S H pl tmps a) (h : WRel G B w0 S H pl w) (ho : o.op = .buildSlice t n parts)
    (htd : C.td t = .sl e sz by_) (hzs : (C.td e).zero = some zs) (hn : 0 < n * sz ∧ n * sz ≤ 16777216)
    (ha : afill (fun i => some (i * sz, sz)) (List.replicate n (zAV (C.zz e) zs)).flatten (parts.toList.map fun p => (p.1, evA tmps p.2)) = some cs)
    {cs' : List AV} {H1 : List Blk} (hf : ∀ us, Cs (Rep S H pl) cs us → ∃ S', Ext B S H pl S' H1 pl ∧ WRel G B w0 S' H1 pl w ∧ Cs (Rep S' H1 pl) cs' us) :
    OpW P G B w0 o a S H pl w (.own H1.length 0) (H1 ++ [.grow e sz 0 (AV.hbs 0 cs') (chunks sz n cs')]) := by
  obtain ⟨hu, h0, ⟨ie, z, hie, hsz, hby, hz, hzc⟩, _⟩ := hT.sl t e sz by_ htd
  obtain ⟨i', z', hi', hz', hcz, hs', h1z⟩ := zero_info hT hzs
  rw [hie] at hi'
  obtain rfl := Option.some.inj hi'
  rw [hz] at hz'
  obtain rfl := Option.some.inj hz'
  have hzl : zs.length = sz := by rw [← hs', hsz]
  have hzero : ((Array.range (n * sz)).map (z.cells[· % z.cells.size]!)) = ((List.replicate n zs).flatten).toArray := by
    apply Array.ext'
    have := zeros_list sz z.cells hzc h0 n
    rw [hcz] at this ⊢
    simpa using this
  obtain ⟨us, h2, h3, h4, h5⟩ := afill_sound _ _ _ _ _ (parts_rep ht parts.toList) ((rep_flatten (zAV_rep (S := S) (C.zz e) zs) n).mono fun x u r => .val _ _ r) (fun u hu => by
    obtain ⟨c, hc, huc⟩ := List.mem_flatten.1 hu
    exact h1z u (by rw [(List.mem_replicate.1 hc).2] at huc; exact huc)) ha
  obtain ⟨S1, hE1, hW1, h3'⟩ := hf us h3
  have hlen : cs'.length = n * sz := by
    rw [← h3'.1, h3.1, h5]
    simp [zAV_len, hzl]
  have hm : parts.map (fun p => (p.1, a.eval p.2)) = (parts.toList.map fun p => (p.1, a.eval p.2)).toArray := by
    apply Array.ext'
    simp
  have hr := run_buildSlice (P := P) w t e n (parts.map fun p => (p.1, a.eval p.2)) us.toArray ie z hu hie hz (by rw [hsz]; omega) (by rw [hsz]; omega) (by
    rw [hm, hsz, hzero]
    exact h2)
  obtain ⟨hc1, hc2, hc3⟩ := chunks_flatten sz n cs' hlen
  have hn0 : n ≤ maxLen := by
    have : n * 1 ≤ n * sz := Nat.mul_le_mul_left _ h0
    unfold maxLen
    omega
  refine .run (u := .slice (some ⟨w.heap.size, 0, none⟩) n n) (w' := w.alloc (.cells us.toArray e)) ?_ (hE1.trans push_ext) (hW1.push hG ((Below.refl _ _).alloc (Nat.le_refl _) _) (p := some (w.heap.size, n)) ⟨h0, hc3, by simp, fun hb c hc => hbs_chunks 0 sz n cs' hb c hc, us, ⟨?_, .inr ⟨w.heap.size, n, us.toArray, by rw [hc2]; rfl, Nat.le_refl _, heap_alloc_new w _, by rw [hc2]; exact Nat.le_refl _, hn0, ?_, ?_⟩⟩, by rw [hc1]; exact h3', h4⟩) (.own _ _ _ (by simp) rfl fun e' sz' v bv es q => ?_)
  · simp only [execOp, ho, Sem.run_bind, hr, Result.andThen_ok, Sem.run_pure]
  · rw [hc2, h3'.1, hlen]
  · simp [h3'.1, hlen]
  · rw [hc2, List.toList_toArray, List.take_of_length_le (by rw [h3'.1, hlen]; exact Nat.le_refl _)]
  · simp at q
    obtain ⟨rfl, rfl, rfl, rfl, rfl⟩ := q
    rw [hc2]
    simp [pushPl, slv]

theorem op_buildNil {tmps : List AV} {a : Act} {o : Oper} {t e sz by_ : Nat} {parts : Array (Nat × Operand)} (hG : ∀ w', Below B w0 w' → G w') (hT : TdOk P C) (ht : TRel S H pl tmps a) (h : WRel G B w0 S H pl w) (ho : o.op = .buildSlice t 0 parts) (hp : parts.size = 0)
    (htd : C.td t = .sl e sz by_) : OpW P G B w0 o a S H pl w (.own H.length 0) (H ++ [.grow e sz 0 true []]) := by
  obtain ⟨hu, h0, ⟨ie, z, hie, hsz, hby, hz, hzc⟩, _⟩ := hT.sl t e sz by_ htd
  have hp' : parts = #[] := Array.eq_empty_of_size_eq_zero hp
  subst hp'
  refine .run (u := .slice (some ⟨w.heap.size, 0, none⟩) 0 0) (w' := w.alloc (.cells #[] e)) ?_ push_ext (h.push hG ((Below.refl _ _).alloc (Nat.le_refl _) _) (p := some (w.heap.size, 0)) ⟨h0, by simp, by simp, by simp, [], ⟨by simp, .inr ⟨w.heap.size, 0, #[], rfl, Nat.le_refl _, heap_alloc_new w _, Nat.le_refl _, by simp [maxLen], by simp, by simp⟩⟩, Cs.nil, by simp⟩) (.own _ _ _ (by simp) rfl fun e' sz' v bv es q => ?_)
  · simp [execOp, ho, Instr.buildSlice, run_underlying hu, sizeOf, typeInfo, hie, Instr.fill, newRow, Sem.run_bind]
    congr 2
    exact Array.eq_empty_of_size_eq_zero (by simp)
  · simp at q
    obtain ⟨rfl, rfl, rfl, rfl, rfl⟩ := q
    simp [pushPl, slv]

/-- An append, with where the row lies behind it. -/
theorem append_run {t e ty : TypeId} {i : TypeInfo} {z : Value} {sz by_ : Nat} (hu : P.underlying t = some (.slice e)) (hi : P.info? e = some i) (hz : i.zero = some z) (hs : i.size = sz) (hby : i.bytes = by_) (hzs : z.cells.size = sz) (h0 : 0 < sz)
    {p : Option (Nat × Nat)} {n : Nat} {xs : List Value} (ho : w.ownsRow B e sz (slv p n) n xs) (hB : B ≤ w.heap.size) {x : Value} {m : Nat} {news : List Value}
    (hx : (x = .slice none 0 0 ∧ m = 0 ∧ news = []) ∨ ∃ ad c, x = .slice (some ad) m c ∧ ∀ (j : Nat) u, news[j]? = some u → w.cell? (ad.add j) = some u) (hl : news.length = m * sz) (h1 : ∀ u ∈ news, u.oneCell' = true)
    (hb : (n + m) * by_ ≤ 140737488355328) (hm : n + m ≤ maxLen) :
    ∃ p' w', (Builtin.append_ #[t, t] ty #[slv p n, x]).run P w = .ok (slv p' (n + m)) w' ∧ w'.ownsRow B e sz (slv p' (n + m)) (n + m) (xs ++ news) ∧ w.grownBy w' (p.map (·.1)) ∧
      (∀ b c, p' = some (b, c) → w.heap.size ≤ b ∨ ∃ c', p = some (b, c')) ∧ (p' = none → n + m = 0) := by
  subst hs
  subst hby
  have hlen : (xs ++ news).length = (n + m) * i.size := by rw [List.length_append, ho.1, hl, Nat.add_mul]
  rcases hx with ⟨rfl, rfl, rfl⟩ | ⟨ad, c, rfl, hnews⟩
  · refine ⟨p, w, run_append_owned_none (P := P) w B t ty e i i.size hu hi _ n xs ho, by simpa using ho, ⟨rfl, rfl, rfl, Nat.le_refl _, fun _ _ _ => rfl⟩, fun b c' hp => .inr ⟨c', hp⟩, fun hp => ?_⟩
    subst hp
    rcases ho.2 with ⟨_, hn⟩ | ⟨g, cap, cur, hq, _⟩
    · omega
    · simp [slv] at hq
  · cases p with
    | none =>
      have hn : n = 0 := by
        rcases ho.2 with ⟨_, hn⟩ | ⟨g, cap, cur, hq, _⟩
        · exact hn
        · simp [slv] at hq
      subst hn
      have hxs : xs = [] := List.eq_nil_of_length_eq_zero (by simpa using ho.1)
      subst hxs
      by_cases hm0 : m = 0
      · subst hm0
        have hnn : news = [] := List.eq_nil_of_length_eq_zero (by simpa using hl)
        subst hnn
        refine ⟨none, w, ?_, ho, ⟨rfl, rfl, rfl, Nat.le_refl _, fun _ _ _ => rfl⟩, by simp, by simp⟩
        simp [slv, Builtin.append_, run_underlying hu, sizeOf, typeInfo, hi, Builtin.lenOf, Builtin.firstCells, loadCells, loadCellsFrom]
      · have hr := run_append_nil (P := P) w t ty e i z hu hi hz ad m c news hl hnews (by omega) (by unfold maxLen at hm; omega) (by simp only [Nat.zero_add] at hb; omega)
        have hge := grownCap_ge w m 0 e
        have hcm : grownCap w m 0 e ≤ maxLen := grownCap_le_maxLen w m 0 e (by omega)
        refine ⟨some (w.heap.size, grownCap w m 0 e), _, by simpa [slv] using hr, ⟨hlen, .inr ⟨w.heap.size, grownCap w m 0 e, _, by simp [slv], hB, heap_alloc_new w.drew _, by omega, hcm, ?_, ?_⟩⟩, ⟨rfl, rfl, rfl, by simp, fun k hk _ => heap_alloc_old w.drew _ hk⟩, fun b c' hp => .inl (by cases hp; exact Nat.le_refl _), by simp⟩
        · simp only [Array.size_append, List.size_toArray, size_zeroCells, hzs, hl, ← Nat.add_mul]
          congr 1
          omega
        · simp only [Array.toList_append, List.nil_append, Nat.zero_add]
          rw [← hl]
          exact List.take_left
    | some bc =>
      obtain ⟨g, cap⟩ := bc
      rcases ho.2 with ⟨hq, _⟩ | ⟨g', cap', cur, hq, hBg, hg, hnc, hcm, hcs, htake⟩
      · simp [slv] at hq
      · simp [slv] at hq
        obtain ⟨rfl, rfl⟩ := hq
        by_cases hroom : n + m ≤ cap
        · have hfit : n * i.size + news.length ≤ cur.size := by rw [hl, hcs, ← Nat.add_mul]; exact Nat.mul_le_mul_right _ hroom
          have hr := run_append_room (P := P) w t ty e i hu hi g n cap cur hg ad m c news hl hnews h1 hroom hfit
          refine ⟨some (g, cap), _, hr, ⟨hlen, .inr ⟨g, cap, _, rfl, hBg, setRow_heap w g cur _ e _ hg, hroom, hcm, ?_, ?_⟩⟩, ⟨rfl, rfl, rfl, by simp, fun k _ hk => setRow_other w g k _ (fun e => hk (by simp [e]))⟩, fun b c' hp => .inr ⟨c', hp⟩, by simp⟩
          · simp only [List.size_toArray, List.length_append, List.length_take, List.length_drop, Array.length_toList]
            omega
          · rw [htake, ← hlen]
            exact List.take_left
        · have holds : ∀ (j : Nat) u, xs[j]? = some u → w.cell? ((⟨g, 0, none⟩ : Addr).add j) = some u := ho.cells (g := g) rfl
          have hr := run_append_grow (P := P) w t ty e i z hu hi hz ⟨g, 0, none⟩ n cap xs ho.1 holds ad m c news hl hnews (by omega) (by unfold maxLen at hm; omega) (growslice_fits (by omega) hb)
          have hge := grownCap_ge w (n + m) cap e
          have hcm' : grownCap w (n + m) cap e ≤ maxLen := grownCap_le_maxLen w (n + m) cap e hm
          refine ⟨some (w.heap.size, grownCap w (n + m) cap e), _, hr, ⟨hlen, .inr ⟨w.heap.size, grownCap w (n + m) cap e, _, rfl, hB, heap_alloc_new w.drew _, hge, hcm', ?_, ?_⟩⟩, ⟨rfl, rfl, rfl, by simp, fun k hk _ => heap_alloc_old w.drew _ hk⟩, fun b c' hp => .inl (by cases hp; exact Nat.le_refl _), by simp⟩
          · simp only [Array.size_append, List.size_toArray, size_zeroCells, hzs, ho.1, hl, ← Nat.add_mul]
            congr 1
            omega
          · simp only [Array.toList_append, List.append_assoc]
            rw [← List.append_assoc, ← hlen]
            exact List.take_left

theorem lst_slice {sz n m : Nat} {get : Nat → List AV} {u : Value} (h : Rep S H pl (.lst sz n m get) u) : ∃ ad k c, u = .slice ad k c := by
  cases h with
  | val _ _ r => cases r with
    | nil => exact ⟨_, _, _, rfl⟩
    | lst _ _ _ _ ad cap f => exact ⟨_, _, _, rfl⟩
theorem z_inv {b : Bool} {sz : Nat} {u : Value} (h : Rep S H pl (.z b sz) u) : u = .slice none 0 0 ∨ b = false ∧ ∃ ad, u = .slice (some ad) 0 0 := by
  cases h with
  | val _ _ r => cases r with
    | znil => exact .inl rfl
    | zsome _ ad => exact .inr ⟨rfl, ad, rfl⟩
theorem z_slice {b : Bool} {sz : Nat} {u : Value} (h : Rep S H pl (.z b sz) u) : ∃ ad k c, u = .slice ad k c := by
  cases h with
  | val _ _ r => cases r with
    | znil => exact ⟨_, _, _, rfl⟩
    | zsome _ ad => exact ⟨_, _, _, rfl⟩
theorem own_slice {id ver e sz v : Nat} {bv : Bool} {es : List (List AV)} {u : Value} (h : Rep S H pl (.own id ver) u) (hH : H[id]? = some (.grow e sz v bv es)) (hv : ver = v) : ∃ ad k c, u = .slice ad k c := by
  cases h with
  | val _ _ r => cases r
  | own _ _ _ _ _ k =>
    have := (k _ _ _ _ _ hH).2 hv.symm
    subst this
    cases pl id with
    | none => exact ⟨_, _, _, rfl⟩
    | some p => exact ⟨_, _, _, rfl⟩
theorem evOpQ_sound {tmps : List AV} {a : Act} {o : Oper} {x : AV} (hG : ∀ w', Below B w0 w' → G w') (hK : CtxOk P C G) (ht : TRel S H pl tmps a) (h : WRel G B w0 S H pl w) (e : evOpQ C P tmps H o = some x) : OpW P G B w0 o a S H pl w x H := by
  unfold evOpQ at e
  split at e
  · rename_i y ho
    obtain rfl := Option.some.inj e
    exact op_move ht h (.inl ho)
  · rename_i y ho
    obtain rfl := Option.some.inj e
    exact op_move ht h (.inr ho)
  · rename_i c y z ho
    split at e
    · rename_i t hc
      obtain rfl := Option.some.inj e
      exact op_pick ht h ho hc
    · cases e
  · rename_i t y ho
    exact op_load hK.td ht h ho e
  · -- nilCheck
    rename_i y ho
    have hy := ht.ev y
    split at e
    · rename_i k off hax
      split at e
      · rename_i cs hH
        obtain rfl := Option.some.inj e
        rw [hax] at hy
        cases hq : hy with
        | val _ _ r => cases r
        | ptr _ _ _ hi _ hp =>
          obtain ⟨b, c, hpl, hu⟩ := hp _ hH
          exact .still h (u := a.eval y) (by simp [execOp, ho, hu]) hy
      · cases e
    · rename_i cs hax
      obtain rfl := Option.some.inj e
      rw [hax] at hy
      have : ∃ ad, a.eval y = .pointer (some ad) := by
        generalize a.eval y = u at hy
        cases hy with
        | val _ _ r => cases r with | ept _ ad f => exact ⟨ad, rfl⟩
      obtain ⟨ad, hu⟩ := this
      exact .still h (u := a.eval y) (by simp [execOp, ho, hu]) hy
    · cases e
  · -- fieldAddr
    rename_i t y f ho
    split at e
    · rename_i sz fs zs htd
      split at e
      · rename_i off s g hf
        obtain ⟨r, hr, hy⟩ := field_sound (w := w) hK.td (ht.ev y) htd hf e
        exact .still h (by simp [execOp, ho, hr]) hy
      · cases e
    · cases e
  · -- field
    rename_i t y f ho
    split at e
    · rename_i sz fs zs htd
      split at e
      · rename_i off s g cs hf hax
        split at e
        · rename_i hle
          have hy := ht.ev y
          rw [hax] at hy
          obtain ⟨r, hr, hy⟩ := part_sound (w := w) hK.td hy htd hf hle e
          exact .still h (by simp [execOp, ho, hr]) hy
        · cases e
      · cases e
    · cases e
  · -- indexAddr
    rename_i t y i ho
    split at e
    · rename_i e' sz by' k n htd hi
      have hi' := ht.ev i
      rw [hi] at hi'
      obtain ⟨r, hr, hy⟩ := idx_sound (k := k) hK.td h htd (ht.ev y) e
      exact .still h (by simp [execOp, ho, hi'.v_inv, hr]) hy
    · cases e
  · -- slice
    rename_i t y lo hi mx ho
    split at e
    · rename_i hcut
      have hy := ht.ev y
      obtain ⟨k1, k2, rfl, rfl, rfl⟩ : ∃ k1 k2, lo = none ∧ hi = some (.const (.int k1 0)) ∧ mx = some (.const (.int k2 0)) := by
        unfold zeroCut at hcut
        split at hcut
        · exact ⟨_, _, rfl, rfl, rfl⟩
        · cases hcut
      unfold zeroA at e
      split at e
      case h_2 => cases e
      rename_i d' e' sz by' htd
      obtain ⟨hu, hs0, ⟨ti, z, hi', hs, _⟩, _⟩ := hK.td.sl t e' sz by' htd
      have hel : P.elem t = e' := by simp [Program.elem, hu]
      have hu' : P.underlying t = some (.slice (P.elem t)) := by rw [hel]; exact hu
      have hsz : (sizeOf (P.elem t)).run P w = .ok sz w := by rw [hel]; simp [sizeOf, typeInfo, hi', hs]
      have hrun : ∀ (ad : Option Addr) (n cap : Nat), (Instr.sliceAt t (.slice ad n cap) none (some (.int k1 0)) (some (.int k2 0))).run P w = .ok (sliced ad 0 0 0 sz) w := fun ad n cap => by
        rw [run_sliceAt_slice w t _ _ _ _ hu', run_slice_hm w t ad n cap hu' k1 k2 0 0 (by omega) (by omega) (by omega), hsz]
        simp [Result.andThen]
      have hz : ∀ (ad : Option Addr), RepV S (.z false sz) (sliced ad 0 0 0 sz) := fun ad => by
        cases ad with
        | none => simp [sliced]; exact .znil _ _
        | some ad => simp [sliced]; exact .zsome _ _
      have fin : ∀ {s : Nat}, s = sz → (∃ ad n cap, a.eval y = .slice ad n cap) → x = .z false sz → OpW P G B w0 o a S H pl w x H := fun _ ⟨ad, n, cap, hu⟩ hx => by
        subst hx
        have hE : (execOp a.eval o).run P w = .ok (.value (sliced ad 0 0 0 sz)) w := by
          simp only [execOp, ho, Sem.run_bind, hu, Option.map_none, Option.map_some]
          have := hrun ad n cap
          simp only [Act.eval] at this ⊢
          rw [this]
          rfl
        exact .still h hE (.val _ _ (hz ad))
      split at e
      · rename_i s n m get hx
        split at e
        · rename_i hs'
          rw [hx] at hy
          exact fin hs' (lst_slice hy) (Option.some.inj e).symm
        · cases e
      · rename_i b s hx
        split at e
        · rename_i hs'
          rw [hx] at hy
          exact fin hs' (z_slice hy) (Option.some.inj e).symm
        · cases e
      · rename_i id ver hx
        split at e
        · rename_i e2 s v bv es hH
          split at e
          · rename_i hs'
            rw [hx] at hy
            exact fin hs'.2 (own_slice hy hH hs'.1) (Option.some.inj e).symm
          · cases e
        · cases e
      · cases e
    · exact slice_op hK.td ht h ho e
  · -- makeInterface
    rename_i t y ho
    split at e
    · rename_i hc
      obtain rfl := Option.some.inj e
      obtain ⟨d, hu, hd⟩ := hK.td.conc t hc
      have hrep : Rep S H pl (match AV.plain (evA tmps y) with | some u => AV.v (.iface t u) | none => .ifc t (evA tmps y)) (.iface t (a.eval y)) := by
        split
        · rename_i u hu'
          rw [plain_rep _ hu' (ht.ev y)]
          exact .val _ _ (.v _)
        · exact .ifc _ _ _ (ht.ev y)
      refine .still h (u := .iface t (a.eval y)) ?_ hrep
      have : (Instr.makeInterface t (a.eval y)).run P w = .ok (.iface t (a.eval y)) w := by
        unfold Instr.makeInterface
        rw [Sem.run_bind, run_underlying hu w]
        cases d <;> simp_all
      simp [execOp, ho, this]
    · cases e
  · -- makeFunc
    rename_i f first caps ho
    split at e
    · rename_i hz
      obtain rfl := Option.some.inj e
      have hcs := evs_args ht caps.toList
      refine .still h (u := .func (.func f) #[] (caps.toList.map a.eval).toArray) ?_ (.fn f _ _ hcs.1 hcs.2)
      have h1 : first = #[] := Array.eq_empty_of_size_eq_zero hz
      have h2 : (caps.toList.map a.eval).toArray = caps.map a.eval := by
        rw [← List.map_toArray, Array.toArray_toList]
      simp [execOp, ho, Instr.makeFunc, h1, h2]
    · cases e
  · -- extract
    rename_i y i ho
    have hy := ht.ev y
    split at e
    · rename_i vs hax
      rw [hax] at hy
      obtain ⟨us, hu, hc⟩ := hy.tup_inv
      obtain ⟨u, hu', hr⟩ := hc.get e
      exact .still h (u := u) (by simp [execOp, ho, hu, Instr.extract, hu']) hr
    · rename_i vs hax
      rw [hax] at hy
      have hu := hy.v_inv
      split at e
      · rename_i u hu'
        obtain rfl := Option.some.inj e
        exact .still h (u := u) (by simp [execOp, ho, hu, Instr.extract, hu']) (.val _ _ (.v _))
      · cases e
    · cases e
  · rename_i t y z t' ho
    split at e
    · rename_i r hr
      obtain rfl := Option.some.inj e
      exact eql_op hK ht h ho hr
    · split at e
      · rename_i hs
        obtain rfl := Option.some.inj e
        exact opS_op ht h ho hs
      · exact pureOp_sound ht h e (congr_bin ho)
  · rename_i t y z t' ho
    split at e
    · rename_i r hr
      obtain rfl := Option.some.inj e
      exact neq_op hK ht h ho hr
    · split at e
      · rename_i hs
        obtain rfl := Option.some.inj e
        exact opS_op ht h ho hs
      · exact pureOp_sound ht h e (congr_bin ho)
  · rename_i ho
    split at e
    · rename_i hs
      obtain rfl := Option.some.inj e
      exact opS_op ht h ho hs
    · exact pureOp_sound ht h e (congr_bin ho)
  · rename_i t parts ho
    split at e
    · rename_i sz fs zs htd
      split at e
      · rename_i cs hcs
        obtain rfl := Option.some.inj e
        exact op_build hK.td ht h ho htd hcs
      · cases e
    · cases e
  · rename_i ho
    exact pureOp_sound ht h e (congr_un ho)
  · -- index of a string
    rename_i t y i ho
    split at e
    · rename_i z s k n htd hax hi
      split at e
      · rename_i hb
        obtain rfl := Option.some.inj e
        have hy := ht.ev y
        have hi' := ht.ev i
        rw [hax] at hy
        rw [hi] at hi'
        obtain ⟨⟨d, hu, _, hk⟩, _⟩ := hK.td.one t _ htd
        have hk' : d = .string := hk
        subst hk'
        have hlt : n.toNat < s.size := by omega
        refine .still h (u := .int .u8 (s.data.getD n.toNat 0).toNat) ?_ (.val _ _ (.v _))
        have hg : s[n.toNat]? = some (s.data.getD n.toNat 0) := by
          rw [getElem?_pos s n.toNat hlt]
          have : n.toNat < s.data.size := hlt
          simp [Array.getD]
          rw [dif_pos hlt]
          rfl
        simp [execOp, ho, hy.v_inv, hi'.v_inv, Instr.index, asIntOf, run_underlying hu, Sem.run_bind, hb.1, hg]
      · cases e
    · cases e
  · -- convert
    rename_i src dst y ho
    split at e
    · rename_i k0 n0 k n1 k' n h1 h2 hax
      obtain rfl := Option.some.inj e
      have hy := ht.ev y
      rw [hax] at hy
      obtain ⟨⟨d1, hu1, _, hk1⟩, _⟩ := hK.td.one _ _ h1
      obtain ⟨⟨d2, hu2, _, hk2⟩, _⟩ := hK.td.one _ _ h2
      have e1 : d1 = .int k0 := hk1
      have e2 : d2 = .int k := hk2
      subst e1
      subst e2
      refine .still h (u := .int k (k.wrap n)) ?_ (.val _ _ (.v _))
      simp [execOp, ho, hy.v_inv, convert, run_underlying hu1, run_underlying hu2, Sem.run_bind, Conv.intToInt]
    · rename_i z1 z2 s h1 h2 hax
      obtain rfl := Option.some.inj e
      have hy := ht.ev y
      rw [hax] at hy
      obtain ⟨⟨d1, hu1, _, hk1⟩, _⟩ := hK.td.one _ _ h1
      obtain ⟨⟨d2, hu2, _, hk2⟩, _⟩ := hK.td.one _ _ h2
      have e1 : d1 = .string := hk1
      have e2 : d2 = .string := hk2
      subst e1
      subst e2
      refine .still h (u := .string s) ?_ (.val _ _ (.v _))
      simp [execOp, ho, hy.v_inv, convert, run_underlying hu1, run_underlying hu2, Sem.run_bind]
    · cases e
  · -- calls
    rename_i c ho
    split at e
    · rename_i hc
      split at e
      · rename_i y t hxs hts
        have ha : c.args = #[y] := by rw [← Array.toArray_toList (xs := c.args), hxs]
        have hat : c.argTypes = #[t] := by rw [← Array.toArray_toList (xs := c.argTypes), hts]
        have hy := ht.ev y
        split at e
        · rename_i e' sz by' htd
          split at e
          · rename_i n hn
            obtain rfl := Option.some.inj e
            obtain ⟨ad, cp, hu⟩ := lenA_sound h hy hn
            obtain ⟨hut, _⟩ := hK.td.sl t _ _ _ htd
            have hel : P.elem t = e' := by simp [Program.elem, hut]
            refine .still h (u := .int .i64 n) ?_ (.val _ _ (.v _))
            have := run_len_slice (P := P) w t o.type ad n cp (by rw [hel]; exact hut)
            simp [execOp, ho, resolve, hc, ha, hat, invoke, builtin, hu, this, goInt]
          · cases e
        · rename_i z s htd hax
          obtain rfl := Option.some.inj e
          rw [hax] at hy
          obtain ⟨⟨d, hu, _, hk⟩, _⟩ := hK.td.one t _ htd
          have hk' : d = .string := hk
          subst hk'
          refine .still h (u := .int .i64 s.size) ?_ (.val _ _ (.v _))
          simp [execOp, ho, resolve, hc, ha, hat, invoke, builtin, hy.v_inv, Builtin.len_, run_underlying hu, Sem.run_bind, goInt]
        · cases e
      · cases e
    · rename_i hc
      split at e
      · rename_i hs
        obtain rfl := Option.some.inj e
        exact mm_op ht h ho (.inl ⟨rfl, hc⟩) hs
      · exact pureOp_sound ht h e (congr_builtin ho hc)
    · rename_i hc
      split at e
      · rename_i hs
        obtain rfl := Option.some.inj e
        exact mm_op ht h ho (.inr ⟨rfl, hc⟩) hs
      · exact pureOp_sound ht h e (congr_builtin ho hc)
    · rename_i f hc
      split at e
      · rename_i r Hr hr
        exact callMA_q hG hK ht h ho hc hr e
      · cases e
    · cases e
  · cases e
end
end Go.Proofs.YtalkodandfjkmaaDoor.Av

/- Appends; the interpreter's step, whole; rows of operations. -/
set_option linter.unusedVariables false
set_option linter.unusedSimpArgs false
namespace Go.Proofs.YtalkodandfjkmaaDoor.Av
open Go Go.RowKit
variable {P : Program}
section
variable {S : Sto} {H : List Blk} {pl : Pl} {G : World → Prop} {B : Nat} {w0 w : World} {C : Ctx}

theorem hb_of_val {x : AV} {u : Value} (r : RepV S x u) : AV.hb 0 x = true := by
  have key : ∀ cs : List AV, (∀ (j : Nat) x, cs[j]? = some x → AV.hb 0 x = true) → AV.hbs 0 cs = true := by
    intro cs
    induction cs with
    | nil => intro _; rfl
    | cons y cs ih =>
      intro h
      rw [AV.hbs, h 0 y rfl, ih fun j x hx => h (j + 1) x (by simpa using hx)]
      rfl
  induction r with
  | any | v | nil | lst | ept | znil | zsome => rfl
  | agg cs us hl k ih => exact key cs fun j x hx => ih j x _ hx (List.getElem?_eq_getElem (by rw [hl]; exact (List.getElem?_eq_some_iff.1 hx).1))
  | tup cs us hl k ih => exact key cs fun j x hx => ih j x _ hx (List.getElem?_eq_getElem (by rw [hl]; exact (List.getElem?_eq_some_iff.1 hx).1))
  | fn f cs us hl k ih => exact key cs fun j x hx => ih j x _ hx (List.getElem?_eq_getElem (by rw [hl]; exact (List.getElem?_eq_some_iff.1 hx).1))
  | ifc t x u k ih => exact ih
theorem hbs_of {cs : List AV} (h : ∀ x ∈ cs, AV.hb 0 x = true) : AV.hbs 0 cs = true := by
  induction cs with
  | nil => rfl
  | cons y cs ih => rw [AV.hbs, h y List.mem_cons_self, ih fun x hx => h x (List.mem_cons_of_mem _ hx)]; rfl

theorem Cs.flat {R : AV → Value → Prop} (sz : Nat) (f : Nat → Nat → Value) (get : Nat → List AV) : ∀ (n k : Nat), (∀ i, k ≤ i → i < k + n → (get i).length = sz) → (∀ (i j : Nat) x, k ≤ i → i < k + n → (get i)[j]? = some x → R x (f i j)) →
    Cs R ((List.range' k n).map get).flatten ((List.range' k n).map fun i => (List.range sz).map (f i)).flatten
  | 0, k, _, _ => Cs.nil
  | n + 1, k, hl, hr => by
    rw [List.range'_succ, List.map_cons, List.map_cons, List.flatten_cons, List.flatten_cons]
    refine Cs.append ⟨by simp [hl k (Nat.le_refl _) (by omega)], fun j x u hx hu => ?_⟩ (Cs.flat sz f get n (k + 1) (fun i h1 h2 => hl i (by omega) (by omega)) fun i j x h1 h2 => hr i j x (by omega) (by omega))
    have hj : j < sz := by have := (List.getElem?_eq_some_iff.1 hu).1; simpa using this
    rw [List.getElem?_map, List.getElem?_range hj] at hu
    simp at hu
    subst hu
    exact hr k j x (Nat.le_refl _) (by omega) hx

theorem flat_val (sz : Nat) (h0 : 0 < sz) (f : Nat → Nat → Value) (n : Nat) : ∀ (q : Nat) u, (((List.range n).map fun i => (List.range sz).map (f i)).flatten)[q]? = some u → ∃ i j, i < n ∧ j < sz ∧ q = i * sz + j ∧ u = f i j := by
  induction n with
  | zero => intro q u h; simp at h
  | succ n ih =>
    intro q u h
    rw [List.range_succ, List.map_append, List.flatten_append] at h
    have hl : (((List.range n).map fun i => (List.range sz).map (f i)).flatten).length = n * sz := by
      clear ih h
      induction n with
      | zero => simp
      | succ n ih => rw [List.range_succ, List.map_append, List.flatten_append, List.length_append, ih, Nat.add_mul]; simp
    by_cases hq : q < n * sz
    · rw [List.getElem?_append_left (by omega)] at h
      obtain ⟨i, j, h1, h2, h3, h4⟩ := ih q u h
      exact ⟨i, j, by omega, h2, h3, h4⟩
    · rw [List.getElem?_append_right (by omega), hl] at h
      simp only [List.map_cons, List.map_nil, List.flatten_cons, List.flatten_nil, List.append_nil] at h
      have hj : q - n * sz < sz := by have := (List.getElem?_eq_some_iff.1 h).1; simpa using this
      rw [List.getElem?_map, List.getElem?_range hj] at h
      simp at h
      exact ⟨n, q - n * sz, by omega, hj, by omega, h.symm⟩

theorem appArg_sound (h : WRel G B w0 S H pl w) {sz : Nat} (h0 : 0 < sz) {x : AV} {u : Value} {new : List (List AV)} {nbv : Bool} (hx : Rep S H pl x u) (e : appArg sz x H = some (new, nbv)) :
    ∃ news, ((u = .slice none 0 0 ∧ new.length = 0 ∧ news = []) ∨ ∃ ad c, u = .slice (some ad) new.length c ∧ ∀ (j : Nat) v, news[j]? = some v → w.cell? (ad.add j) = some v) ∧ news.length = new.length * sz ∧
      Cs (Rep S H pl) new.flatten news ∧ (∀ v ∈ news, v.oneCell' = true) ∧ (∀ c ∈ new, c.length = sz) ∧ (nbv = true → ∀ c ∈ new, AV.hbs 0 c = true) := by
  cases x with
  | lst s n m get =>
    simp only [appArg] at e
    split at e
    · rename_i hs
      subst hs
      simp only [Option.some.injEq, Prod.mk.injEq] at e
      obtain ⟨rfl, rfl⟩ := e
      cases hx with
      | val _ _ r =>
        cases r with
        | nil => exact ⟨[], .inl ⟨rfl, by simp, rfl⟩, by simp, by simpa using Cs.nil, by simp, by simp, by simp⟩
        | lst _ _ _ _ ad cap f hnm hn hl hS hr h1 =>
          have hfl := Cs.flat (R := Rep S H pl) s f get n 0 (fun i _ hi => hl i (by omega)) (fun i j x _ hi hx => .val _ _ (hr i j x (by omega) hx))
          rw [← List.range_eq_range'] at hfl
          have hlen : (((List.range n).map fun i => (List.range s).map (f i)).flatten).length = n * s := by
            clear hfl hl hS hr h1 hn hnm
            induction n with
            | zero => simp
            | succ n ih => rw [List.range_succ, List.map_append, List.flatten_append, List.length_append, ih, Nat.add_mul]; simp
          refine ⟨_, .inr ⟨ad, cap, by simp, fun j v hv => ?_⟩, by simpa using hlen, hfl, fun v hv => ?_, fun c hc => ?_, fun _ c hc => ?_⟩
          · obtain ⟨i, k, hi, hk, rfl, rfl⟩ := flat_val s h0 f n j v hv
            exact h.imm _ _ (hS i k (by omega) hk)
          · obtain ⟨j, hj⟩ := List.mem_iff_getElem?.1 hv
            obtain ⟨i, k, hi, hk, rfl, rfl⟩ := flat_val s h0 f n j v hj
            exact h1 i k (by omega) hk
          · obtain ⟨i, hi, rfl⟩ := List.mem_map.1 hc
            exact hl i (Nat.lt_of_lt_of_le (List.mem_range.1 hi) hnm)
          · obtain ⟨i, hi, rfl⟩ := List.mem_map.1 hc
            have hi := List.mem_range.1 hi
            refine hbs_of fun x hx => ?_
            obtain ⟨j, hj⟩ := List.mem_iff_getElem?.1 hx
            exact hb_of_val (hr i j x (by omega) hj)
    · cases e
  | own id ver =>
    simp only [appArg] at e
    cases hH : H[id]? with
    | none => simp [hH] at e
    | some blk =>
      cases blk with
      | var cs => simp [hH] at e
      | dead => simp [hH] at e
      | grow e' s ver' bv es =>
        simp only [hH] at e
        split at e
        · rename_i hv
          obtain ⟨rfl, rfl⟩ := hv
          simp only [Option.some.injEq, Prod.mk.injEq] at e
          obtain ⟨rfl, rfl⟩ := e
          obtain ⟨_, hl, hn, hbv, xs, ho, hc, h1⟩ := h.h.grow id _ _ _ _ _ hH
          have hu : u = slv (pl id) es.length := by
            cases hx with
            | val _ _ r => cases r
            | own _ _ _ hi _ k => exact (k _ _ _ _ _ hH).2 rfl
          subst hu
          refine ⟨xs, ?_, ho.1, hc, h1, hl, hbv⟩
          cases hp : pl id with
          | none =>
            have := hn hp
            subst this
            exact .inl ⟨rfl, rfl, List.eq_nil_of_length_eq_zero (by simpa using ho.1)⟩
          | some bc => exact .inr ⟨_, _, rfl, ho.cells (g := bc.1) (by rw [slv_some, hp]; rfl)⟩
        · cases e
  | v y =>
    by_cases hy : y = .slice none 0 0
    · subst hy
      simp only [appArg, Option.some.injEq, Prod.mk.injEq] at e
      obtain ⟨rfl, rfl⟩ := e
      have := hx.v_inv
      subst this
      exact ⟨[], .inl ⟨rfl, rfl, rfl⟩, by simp, Cs.nil, by simp, by simp, by simp⟩
    · simp only [appArg] at e
      split at e <;> simp_all
  | z b s =>
    simp only [appArg, Option.some.injEq, Prod.mk.injEq] at e
    obtain ⟨rfl, rfl⟩ := e
    refine ⟨[], ?_, by simp, Cs.nil, by simp, by simp, by simp⟩
    cases hx with
    | val _ _ r => cases r with
      | znil => exact .inl ⟨rfl, rfl, rfl⟩
      | zsome _ ad => exact .inr ⟨ad, 0, rfl, fun j v hv => by simp at hv⟩
  | _ => simp [appArg] at e

/-- What an inlined call owes. -/
def CallOk (P : Program) (C : Ctx) (G : World → Prop) (B : Nat) (w0 : World) (call : Nat → List AV → List Blk → Option (AV × List Blk)) : Prop :=
  ∀ n args H r H', call n args H = some (r, H') → (∃ fn, C.fn n = some fn) ∧ ∀ S pl w vs, Cs (Rep S H pl) args vs → WRel G B w0 S H pl w →
    Calls P n vs.toArray w fun e w' => ∃ u S' pl', e = .returned u ∧ Ext B S H pl S' H' pl' ∧ WRel G B w0 S' H' pl' w' ∧ Rep S' H' pl' r u

theorem exec_append {a : Act} {o : Oper} {c : Call} {t : Nat} {s x : Operand} (ho : o.op = .call c) (hc : c.callee = .builtin .append) (hargs : c.args.toList = [s, x]) (hts : c.argTypes.toList = [t, t]) {v : Value} {w' : World}
    (hr : (Builtin.append_ #[t, t] o.type #[a.eval s, a.eval x]).run P w = .ok v w') : (execOp a.eval o).run P w = .ok (.value v) w' := by
  have ha : c.args = #[s, x] := by rw [← Array.toArray_toList (xs := c.args), hargs]
  have hat : c.argTypes = #[t, t] := by rw [← Array.toArray_toList (xs := c.argTypes), hts]
  simp [execOp, ho, resolve, hc, ha, hat, invoke, builtin, Sem.run_bind, hr]

theorem op_append {tmps : List AV} {a : Act} {o : Oper} {c : Call} {t e sz by_ : Nat} {s x : Operand} {y : AV} {H' : List Blk} (hG : ∀ w', Below B w0 w' → G w') (hT : TdOk P C) (ht : TRel S H pl tmps a) (h : WRel G B w0 S H pl w) (ho : o.op = .call c)
    (hc : c.callee = .builtin .append) (hargs : c.args.toList = [s, x]) (hts : c.argTypes.toList = [t, t]) (htd : C.td t = .sl e sz by_) (q : appendA e sz by_ (evA tmps s) (evA tmps x) H = some (y, H')) : OpW P G B w0 o a S H pl w y H' := by
  obtain ⟨hu, h0, ⟨i, z, hi, hs, hby, hz, hzs⟩, _⟩ := hT.sl t e sz by_ htd
  unfold appendA at q
  split at q
  · cases q
  · rename_i new nbv hn
    obtain ⟨news, hx, hl, hcs, h1, hel, hbv⟩ := appArg_sound h h0 (ht.ev x) hn
    have hsx := ht.ev s
    split at q
    · rename_i hse
      rw [hse] at hsx
      have hsv := hsx.v_inv
      split at q
      · rename_i hb
        simp only [Option.some.injEq, Prod.mk.injEq] at q
        obtain ⟨rfl, rfl⟩ := q
        obtain ⟨p', w', hr, hown, hgr, hp, hpn⟩ := append_run (B := w.heap.size) (p := none) (n := 0) (xs := []) hu hi hz hs hby hzs h0 (World.ownsRow_nil _ _ _ _) (Nat.le_refl _) hx hl h1 (by simpa using hb.1) (by simpa using hb.2) (ty := o.type)
        simp only [Nat.zero_add, List.nil_append, Option.map_none] at hr hown hgr hpn
        have hbel : Below w.heap.size w w' := ⟨hgr.os, hgr.tape, hgr.output, hgr.size, fun k hk => hgr.block k hk (by simp)⟩
        refine .run (exec_append (v := slv p' new.length) ho hc hargs hts (by rw [hsv]; exact hr)) push_ext (h.push hG hbel (p := p') ⟨h0, hel, fun hp' => List.eq_nil_of_length_eq_zero (hpn hp'), hbv, news, hown, hcs, h1⟩) (.own _ _ _ (by simp) (by cases p' <;> rfl) fun e' sz' v bv es qq => ?_)
        simp at qq
        obtain ⟨rfl, rfl, rfl, rfl, rfl⟩ := qq
        simp [pushPl]
      · cases q
    · rename_i s0 hse
      rw [hse] at hsx
      have hsv : a.eval s = .slice none 0 0 := by
        rcases z_inv hsx with h | ⟨h, _⟩
        · exact h
        · cases h
      split at q
      · rename_i hb
        simp only [Option.some.injEq, Prod.mk.injEq] at q
        obtain ⟨rfl, rfl⟩ := q
        obtain ⟨p', w', hr, hown, hgr, hp, hpn⟩ := append_run (B := w.heap.size) (p := none) (n := 0) (xs := []) hu hi hz hs hby hzs h0 (World.ownsRow_nil _ _ _ _) (Nat.le_refl _) hx hl h1 (by simpa using hb.1) (by simpa using hb.2) (ty := o.type)
        simp only [Nat.zero_add, List.nil_append, Option.map_none] at hr hown hgr hpn
        have hbel : Below w.heap.size w w' := ⟨hgr.os, hgr.tape, hgr.output, hgr.size, fun k hk => hgr.block k hk (by simp)⟩
        refine .run (exec_append (v := slv p' new.length) ho hc hargs hts (by rw [hsv]; exact hr)) push_ext (h.push hG hbel (p := p') ⟨h0, hel, fun hp' => List.eq_nil_of_length_eq_zero (hpn hp'), hbv, news, hown, hcs, h1⟩) (.own _ _ _ (by simp) (by cases p' <;> rfl) fun e' sz' v bv es qq => ?_)
        simp at qq
        obtain ⟨rfl, rfl, rfl, rfl, rfl⟩ := qq
        simp [pushPl]
      · cases q
    · rename_i s0 hse
      rw [hse] at hsx
      split at q
      · rename_i hd
        simp only [Option.some.injEq, Prod.mk.injEq] at q
        obtain ⟨rfl, rfl⟩ := q
        have hn0 : new.length = 0 := of_decide_eq_true hd
        have hnn : news = [] := List.eq_nil_of_length_eq_zero (by rw [hl, hn0, Nat.zero_mul])
        subst hnn
        obtain ⟨ad, hsu⟩ : ∃ ad, a.eval s = .slice ad 0 0 := by
          rcases z_inv hsx with h | ⟨_, ad, h⟩
          · exact ⟨_, h⟩
          · exact ⟨_, h⟩
        have hr : (Builtin.append_ #[t, t] o.type #[a.eval s, a.eval x]).run P w = .ok (a.eval s) w := by
          rw [hsu]
          rcases hx with ⟨hxe, _, _⟩ | ⟨xd, c', hxe, _⟩
          · rw [hxe]; exact run_append_nothing w t t o.type e i hu hi ad 0 0 (Nat.le_refl _) _ (Src.ofNil w hu 0)
          · rw [hxe, hn0]; exact run_append_nothing w t t o.type e i hu hi ad 0 0 (Nat.le_refl _) _ (Src.ofSlice w hu xd 0 c' [] (by simp) (by simp) (by simp))
        refine .still h (u := a.eval s) (exec_append ho hc hargs hts hr) ?_
        rw [hsu]
        cases ad with
        | none => exact .val _ _ (.znil _ _)
        | some ad => exact .val _ _ (.zsome _ _)
      · rename_i hd
        have hn0 : ¬ new.length = 0 := of_decide_eq_false hd
        split at q
        · rename_i hb
          simp only [Option.some.injEq, Prod.mk.injEq] at q
          obtain ⟨rfl, rfl⟩ := q
          have key : ∃ p' w', (Builtin.append_ #[t, t] o.type #[a.eval s, a.eval x]).run P w = .ok (slv p' new.length) w' ∧ w'.ownsRow w.heap.size e sz (slv p' new.length) new.length news ∧ w.grownBy w' none ∧ (p' = none → new.length = 0) := by
            rcases z_inv hsx with hsv | ⟨_, ad, hsv⟩
            · · rw [hsv]
                obtain ⟨p', w', hr, hown, hgr, hp, hpn⟩ := append_run (B := w.heap.size) (p := none) (n := 0) (xs := []) hu hi hz hs hby hzs h0 (World.ownsRow_nil _ _ _ _) (Nat.le_refl _) hx hl h1 (by simpa using hb.1) (by simpa using hb.2) (ty := o.type)
                simp only [Nat.zero_add, List.nil_append, Option.map_none] at hr hown hgr hpn
                exact ⟨p', w', hr, hown, hgr, hpn⟩
            · · rw [hsv]
                rcases hx with ⟨_, hxl, _⟩ | ⟨xd, c', hxe, hcell⟩
                · exact absurd hxl hn0
                · rw [hxe]
                  obtain ⟨v', w', hr, hown, hgr⟩ := run_append_arg_grows (P := P) w t o.type e i z sz by_ hu hi hz hs hby hzs h0 ad 0 0 [] (by simp) (by simp) xd new.length c' news hl hcell (by omega) (by simpa using hb.2) (by simpa using hb.1)
                  simp only [Nat.zero_add, List.nil_append] at hr hown
                  rcases hown.2 with ⟨_, hz0⟩ | ⟨g, cap, cur, hv, _⟩
                  · exact absurd hz0 hn0
                  · subst hv
                    exact ⟨some (g, cap), w', hr, hown, hgr, fun q => by cases q⟩
          obtain ⟨p', w', hr, hown, hgr, hpn⟩ := key
          have hbel : Below w.heap.size w w' := ⟨hgr.os, hgr.tape, hgr.output, hgr.size, fun k hk => hgr.block k hk (by simp)⟩
          refine .run (exec_append (v := slv p' new.length) ho hc hargs hts hr) push_ext (h.push hG hbel (p := p') ⟨h0, hel, fun hp' => List.eq_nil_of_length_eq_zero (hpn hp'), hbv, news, hown, hcs, h1⟩) (.own _ _ _ (by simp) (by cases p' <;> rfl) fun e' sz' v bv es qq => ?_)
          simp at qq
          obtain ⟨rfl, rfl, rfl, rfl, rfl⟩ := qq
          simp [pushPl]
        · cases q
    · rename_i id ver hse
      rw [hse] at hsx
      split at q
      · rename_i e' s' ver' bv es hH
        split at q
        · rename_i hb
          obtain ⟨rfl, rfl, rfl, hb1, hb2⟩ := hb
          simp only [Option.some.injEq, Prod.mk.injEq] at q
          obtain ⟨rfl, rfl⟩ := q
          obtain ⟨_, hel0, hn0, hbv0, xs, ho0, hc0, h10⟩ := h.h.grow id _ _ _ _ _ hH
          have hsu : a.eval s = slv (pl id) es.length := by
            cases hsx with
            | val _ _ r => cases r
            | own _ _ _ hi _ k => exact (k _ _ _ _ _ hH).2 rfl
          obtain ⟨p', w', hr, hown, hgr, hp, hpn⟩ := append_run (B := B) hu hi hz hs hby hzs h0 ho0 h.base hx hl h1 hb1 hb2 (ty := o.type)
          have hkl : id < H.length := (List.getElem?_eq_some_iff.1 hH).1
          have hE : Ext B S H pl S (H.set id (.grow e s' (ver + 1) (bv && nbv) (es ++ new))) (pushPl id pl p') := by
            refine ⟨fun a u e => .inl e, S.le_refl, by simp, fun j cs hj qq => ?_, fun j e2 sz2 ver2 bv2 es2 hj qq => ?_⟩
            · by_cases hjk : j = id
              · subst hjk; rw [List.getElem?_set_self hkl] at qq; cases qq
              · rw [List.getElem?_set_ne (Ne.symm hjk)] at qq; exact ⟨cs, qq, by simp [pushPl, hjk]⟩
            · by_cases hjk : j = id
              · subst hjk
                rw [List.getElem?_set_self hkl] at qq
                cases qq
                exact ⟨e, ver, bv, es, hH, by omega, fun hv => by omega⟩
              · rw [List.getElem?_set_ne (Ne.symm hjk)] at qq; exact ⟨e2, ver2, bv2, es2, qq, Nat.le_refl _, fun _ => ⟨rfl, by simp [pushPl, hjk]⟩⟩
          have hlen : (es ++ new).length = es.length + new.length := List.length_append
          have hone : ∀ u ∈ xs ++ news, u.oneCell' = true := fun u hu => by
            rcases List.mem_append.1 hu with hu | hu
            · exact h10 u hu
            · exact h1 u hu
          refine .run (exec_append (v := slv p' (es.length + new.length)) ho hc hargs hts (by rw [hsu]; exact hr)) hE (h.turn hG hH hE hgr.size hgr.os hgr.tape hgr.output (fun b hbl hne => hgr.block b hbl fun hq => ?_) ⟨h0, ?_, fun hp' => ?_, ?_, xs ++ news, by rw [hlen]; exact hown, by rw [List.flatten_append]; exact hc0.append hcs, hone⟩ hp trivial) (.own _ _ _ (by simpa using hkl) (by cases p' <;> rfl) fun e' sz' v bv' es' qq => ?_)
          · cases hpl : pl id with
            | none => rw [hpl] at hq; simp at hq
            | some bc =>
              rw [hpl] at hq
              simp at hq
              exact hne bc.2 (by rw [hpl, hq])
          · intro c hcm
            rcases List.mem_append.1 hcm with hcm | hcm
            · exact hel0 c hcm
            · exact hel c hcm
          · have := hpn hp'
            exact List.eq_nil_of_length_eq_zero (by rw [hlen]; exact this)
          · intro hbb c hcm
            rw [Bool.and_eq_true] at hbb
            rcases List.mem_append.1 hcm with hcm | hcm
            · exact hbv0 hbb.1 c hcm
            · exact hbv hbb.2 c hcm
          · rw [List.getElem?_set_self hkl] at qq
            cases qq
            refine ⟨Nat.le_refl _, fun _ => ?_⟩
            rw [hlen]
            simp [pushPl]
        · cases q
      · cases q
    · cases q
theorem bytesA_rep : ∀ {cs : List AV} {ns : List Int} {us : List Value}, bytesA cs = some ns → Cs (Rep S H pl) cs us → us = ns.map (Value.int .u8)
  | [], ns, us, e, k => by
    simp only [bytesA, Option.some.injEq] at e
    subst e
    exact k.nil_inv
  | x :: cs, ns, us, e, k => by
    obtain ⟨u, us', rfl, hx, kc⟩ := k.tail
    unfold bytesA at e
    split at e
    · rename_i h; cases h
    · rename_i n r h
      cases h
      split at e
      · rename_i ms hm
        obtain rfl := Option.some.inj e
        rw [hx.v_inv, bytesA_rep hm kc]
        rfl
      · cases e
    · cases e
theorem op_conv {tmps : List AV} {a : Act} {o : Oper} {src dst : Nat} {x : Operand} {y : AV} (hT : TdOk P C) (ht : TRel S H pl tmps a) (h : WRel G B w0 S H pl w) (ho : o.op = .convert src dst x)
    (e : convA (C.td src) (C.td dst) (C.td (C.td src).elem) (evA tmps x) H = some y) : OpW P G B w0 o a S H pl w y H := by
  have hx := ht.ev x
  unfold convA at e
  split at e
  · rename_i e' by' z z' h1 h2 h3
    rw [h1] at h3
    split at e
    · rename_i new bv hn
      split at e
      · rename_i ns hns
        obtain rfl := Option.some.inj e
        obtain ⟨hu1, _⟩ := hT.sl src _ _ _ h1
        obtain ⟨⟨d2, hu2, _, hk2⟩, _⟩ := hT.one dst _ h2
        obtain ⟨⟨d3, hu3, _, hk3⟩, _⟩ := hT.one _ _ h3
        have e2 : d2 = .string := hk2
        have e3 : d3 = .int .u8 := hk3
        subst e2
        subst e3
        obtain ⟨news, hsl, hlen, hcs, _⟩ := appArg_sound h (by omega) hx hn
        have hnews := bytesA_rep hns hcs
        subst hnews
        refine .still h (u := .string (bytesOf ns)) ?_ (.val _ _ (.v _))
        rcases hsl with ⟨hu, hl0, hz⟩ | ⟨ad, c, hu, hcell⟩
        · have : ns = [] := by simpa using hz
          subst this
          simp [execOp, ho, hu, run_convert_bytes_string w src dst _ none 0 0 hu1 hu3 hu2, Conv.bytesToString, bytesOf]
        · have hl : (loadCells ad new.length).run P w = .ok (ns.map (Value.int .u8)).toArray w := by
            have := run_loadCells_list (P := P) w ad (ns.map (Value.int .u8)) hcell
            rw [hlen] at this
            simpa using this
          simp only [execOp, ho, hu]
          rw [Sem.run_bind, run_convert_bytes_string w src dst _ (some ad) new.length c hu1 hu3 hu2, run_bytesToString w ad new.length c ns hl]
          rfl
      · cases e
    · cases e
  · cases e

/-- Alone of all own memory. -/
def only (n id : Nat) (b : Blk) : List Blk := (List.replicate n Blk.dead).set id b
theorem only_get {n id k : Nat} {b x : Blk} (h : (only n id b)[k]? = some x) : (k = id ∧ x = b) ∨ x = .dead := by
  unfold only at h
  rw [List.getElem?_set] at h
  split at h
  · split at h
    · exact .inl ⟨by omega, (Option.some.inj h).symm⟩
    · cases h
  · rw [List.getElem?_replicate] at h
    split at h
    · exact .inr (Option.some.inj h).symm
    · cases h
theorem hbs_flat : ∀ (es : List (List AV)), (∀ c ∈ es, AV.hbs 0 c = true) → AV.hbs 0 es.flatten = true
  | [], _ => rfl
  | c :: es, h => by
    rw [List.flatten_cons, hbs_append, h c List.mem_cons_self, hbs_flat es (fun d hd => h d (List.mem_cons_of_mem _ hd))]
    rfl
theorem dead_get {id k : Nat} {x : Blk} (hx : (H.set id .dead)[k]? = some x) (hl : x.lives) : k ≠ id ∧ H[k]? = some x := by
  rw [List.getElem?_set] at hx
  split at hx
  · split at hx
    · obtain rfl := Option.some.inj hx
      exact hl.elim
    · cases hx
  · rename_i hk
    exact ⟨fun q => hk q.symm, hx⟩
/-- An own slice is let go of: from here on it never turns. -/
theorem freeze (h : WRel G B w0 S H pl w) {id e sz v : Nat} {es : List (List AV)} (hH : H[id]? = some (.grow e sz v true es)) {u : Value} (hx : Rep S H pl (.own id v) u) :
    ∃ S', Ext B S H pl S' (H.set id .dead) pl ∧ WRel G B w0 S' (H.set id .dead) pl w ∧ RepV S' (.lst sz es.length es.length fun i => es.getD i []) u := by
  have hid : id < H.length := (List.getElem?_eq_some_iff.1 hH).1
  have hg1 : (only H.length id (.grow e sz v true es))[id]? = some (.grow e sz v true es) := by
    unfold only
    rw [List.getElem?_set, if_pos rfl, if_pos (by simpa using hid)]
  have hl1 : ∀ k b, live (only H.length id (.grow e sz v true es)) pl k b → k = id ∧ live H pl k b := fun k b ⟨⟨x, hx, hl⟩, hc⟩ => by
    rcases only_get hx with ⟨rfl, rfl⟩ | rfl
    · exact ⟨rfl, ⟨_, hH, hl⟩, hc⟩
    · exact hl.elim
  have h1 : WRel G B w0 S (only H.length id (.grow e sz v true es)) pl w := by
    refine ⟨⟨fun k cs hk => ?_, fun k e' sz' ver bv es' hk => ?_, fun k k' b l l' => (hl1 k b l).1.trans (hl1 k' b l').1.symm, fun a u ha k l => h.h.sep a u ha k (hl1 k _ l).2⟩, h.imm, h.below, h.base, h.g⟩
    · rcases only_get hk with ⟨_, q⟩ | q <;> cases q
    · rcases only_get hk with ⟨rfl, q⟩ | q
      · cases q
        obtain ⟨a1, a2, a3, a4, xs, a5, a6, a7⟩ := h.h.grow _ _ _ _ _ _ hH
        exact ⟨a1, a2, a3, a4, xs, a5, (hbs_val _ (hbs_flat _ (a4 rfl)) a6).mono fun x u r => .val _ _ r, a7⟩
      · cases q
  have hx1 : Rep S (only H.length id (.grow e sz v true es)) pl (.own id v) u := by
    cases hx with
    | val _ _ r => cases r
    | own _ _ _ hi q k =>
      exact .own _ _ _ (by unfold only; simpa using hid) q fun e' sz' v' bv' es' hk => by
        rw [hg1] at hk
        cases hk
        exact k _ _ _ _ _ hH
  have hE : Ext B S H pl (lend S (only H.length id (.grow e sz v true es)) pl w) (H.set id .dead) pl := by
    refine ⟨fun a u ha => ?_, lend_le h1, by simp, fun k cs hk q => ⟨cs, (dead_get q trivial).2, rfl⟩, fun k e' sz' ver bv es' hk q => ⟨e', ver, bv, es', (dead_get q trivial).2, Nat.le_refl _, fun _ => ⟨rfl, rfl⟩⟩⟩
    unfold lend at ha
    split at ha
    · rename_i hk
      obtain ⟨k, l⟩ := hk
      exact .inr (h1.h.lt l).1
    · exact .inl ha
  refine ⟨_, hE, ⟨⟨fun k cs hk => ?_, fun k e' sz' ver bv es' hk => ?_, fun k k' b l l' => ?_, fun a u ha k l => ?_⟩, lend_imm h1, h.below, h.base, h.g⟩, val_rep h1 _ (by simp only [AV.val, hg1, if_true]) hx1⟩
  · obtain ⟨b, c, us, t, a1, a2, a3, a4, a5⟩ := h.h.var k cs (dead_get hk trivial).2
    exact ⟨b, c, us, t, a1, a2, a3, a4.mono fun x u r => r.mono hE, a5⟩
  · obtain ⟨a1, a2, a3, a4, xs, a5, a6, a7⟩ := h.h.grow _ _ _ _ _ _ (dead_get hk trivial).2
    exact ⟨a1, a2, a3, a4, xs, a5, a6.mono fun x u r => r.mono hE, a7⟩
  · obtain ⟨⟨x, hx, hl⟩, hc⟩ := l
    obtain ⟨⟨x', hx', hl'⟩, hc'⟩ := l'
    exact h.h.apart k k' b ⟨⟨x, (dead_get hx hl).2, hl⟩, hc⟩ ⟨⟨x', (dead_get hx' hl').2, hl'⟩, hc'⟩
  · obtain ⟨⟨x, hx, hl⟩, hc⟩ := l
    obtain ⟨hne, hx0⟩ := dead_get hx hl
    unfold lend at ha
    split at ha
    · rename_i hk
      obtain ⟨k', l'⟩ := hk
      obtain ⟨rfl, l0⟩ := hl1 _ _ l'
      exact hne (h.h.apart k k' _ ⟨⟨x, hx0, hl⟩, hc⟩ l0)
    · exact h.h.sep a u ha k ⟨⟨x, hx0, hl⟩, hc⟩
/-- .. whoever holds it. -/
theorem freezes (h : WRel G B w0 S H pl w) {id e sz v : Nat} {es : List (List AV)} (hH : H[id]? = some (.grow e sz v true es)) :
    ∃ S', Ext B S H pl S' (H.set id .dead) pl ∧ WRel G B w0 S' (H.set id .dead) pl w ∧ ∀ u, Rep S H pl (.own id v) u → RepV S' (.lst sz es.length es.length fun i => es.getD i []) u := by
  have hid : id < H.length := (List.getElem?_eq_some_iff.1 hH).1
  have hg1 : (only H.length id (.grow e sz v true es))[id]? = some (.grow e sz v true es) := by
    unfold only
    rw [List.getElem?_set, if_pos rfl, if_pos (by simpa using hid)]
  have hl1 : ∀ k b, live (only H.length id (.grow e sz v true es)) pl k b → k = id ∧ live H pl k b := fun k b ⟨⟨x, hx, hl⟩, hc⟩ => by
    rcases only_get hx with ⟨rfl, rfl⟩ | rfl
    · exact ⟨rfl, ⟨_, hH, hl⟩, hc⟩
    · exact hl.elim
  have h1 : WRel G B w0 S (only H.length id (.grow e sz v true es)) pl w := by
    refine ⟨⟨fun k cs hk => ?_, fun k e' sz' ver bv es' hk => ?_, fun k k' b l l' => (hl1 k b l).1.trans (hl1 k' b l').1.symm, fun a u ha k l => h.h.sep a u ha k (hl1 k _ l).2⟩, h.imm, h.below, h.base, h.g⟩
    · rcases only_get hk with ⟨_, q⟩ | q <;> cases q
    · rcases only_get hk with ⟨rfl, q⟩ | q
      · cases q
        obtain ⟨a1, a2, a3, a4, xs, a5, a6, a7⟩ := h.h.grow _ _ _ _ _ _ hH
        exact ⟨a1, a2, a3, a4, xs, a5, (hbs_val _ (hbs_flat _ (a4 rfl)) a6).mono fun x u r => .val _ _ r, a7⟩
      · cases q
  have hx1 : ∀ u, Rep S H pl (.own id v) u → Rep S (only H.length id (.grow e sz v true es)) pl (.own id v) u := fun u hx => by
    cases hx with
    | val _ _ r => cases r
    | own _ _ _ hi q k =>
      exact .own _ _ _ (by unfold only; simpa using hid) q fun e' sz' v' bv' es' hk => by
        rw [hg1] at hk
        cases hk
        exact k _ _ _ _ _ hH
  have hE : Ext B S H pl (lend S (only H.length id (.grow e sz v true es)) pl w) (H.set id .dead) pl := by
    refine ⟨fun a u ha => ?_, lend_le h1, by simp, fun k cs hk q => ⟨cs, (dead_get q trivial).2, rfl⟩, fun k e' sz' ver bv es' hk q => ⟨e', ver, bv, es', (dead_get q trivial).2, Nat.le_refl _, fun _ => ⟨rfl, rfl⟩⟩⟩
    unfold lend at ha
    split at ha
    · rename_i hk
      obtain ⟨k, l⟩ := hk
      exact .inr (h1.h.lt l).1
    · exact .inl ha
  refine ⟨_, hE, ⟨⟨fun k cs hk => ?_, fun k e' sz' ver bv es' hk => ?_, fun k k' b l l' => ?_, fun a u ha k l => ?_⟩, lend_imm h1, h.below, h.base, h.g⟩, fun u hx => val_rep h1 _ (by simp only [AV.val, hg1, if_true]) (hx1 u hx)⟩
  · obtain ⟨b, c, us, t, a1, a2, a3, a4, a5⟩ := h.h.var k cs (dead_get hk trivial).2
    exact ⟨b, c, us, t, a1, a2, a3, a4.mono fun x u r => r.mono hE, a5⟩
  · obtain ⟨a1, a2, a3, a4, xs, a5, a6, a7⟩ := h.h.grow _ _ _ _ _ _ (dead_get hk trivial).2
    exact ⟨a1, a2, a3, a4, xs, a5, a6.mono fun x u r => r.mono hE, a7⟩
  · obtain ⟨⟨x, hx, hl⟩, hc⟩ := l
    obtain ⟨⟨x', hx', hl'⟩, hc'⟩ := l'
    exact h.h.apart k k' b ⟨⟨x, (dead_get hx hl).2, hl⟩, hc⟩ ⟨⟨x', (dead_get hx' hl').2, hl'⟩, hc'⟩
  · obtain ⟨⟨x, hx, hl⟩, hc⟩ := l
    obtain ⟨hne, hx0⟩ := dead_get hx hl
    unfold lend at ha
    split at ha
    · rename_i hk
      obtain ⟨k', l'⟩ := hk
      obtain ⟨rfl, l0⟩ := hl1 _ _ l'
      exact hne (h.h.apart k k' _ ⟨⟨x, hx0, hl⟩, hc⟩ l0)
    · exact h.h.sep a u ha k ⟨⟨x, hx0, hl⟩, hc⟩
theorem Ext.swap (S : Sto) (H : List Blk) (pl : Pl) (id ver : Nat) (y : AV) : Ext B S H pl S (H.map (Blk.swap id ver y)) pl := by
  refine ⟨fun a u h => .inl h, S.le_refl, by simp, fun k cs' hk e => ?_, fun k e sz v bv es hk q => ?_⟩
  · rw [List.getElem?_map] at e
    cases hb : H[k]? with
    | none => rw [hb] at e; cases e
    | some b =>
      rw [hb] at e
      cases b with
      | var cs => exact ⟨cs, rfl, rfl⟩
      | grow => cases e
      | dead => cases e
  · rw [List.getElem?_map] at q
    cases hb : H[k]? with
    | none => rw [hb] at q; cases q
    | some b =>
      rw [hb] at q
      cases b with
      | var cs => cases q
      | grow => cases q; exact ⟨_, _, _, _, rfl, Nat.le_refl _, fun _ => ⟨rfl, rfl⟩⟩
      | dead => cases q
theorem swap_get {H : List Blk} {id ver : Nat} {y : AV} {k : Nat} {b : Blk} (h : (H.map (Blk.swap id ver y))[k]? = some b) : ∃ b0, H[k]? = some b0 ∧ b = b0.swap id ver y := by
  rw [List.getElem?_map] at h
  cases hb : H[k]? with
  | none => rw [hb] at h; cases h
  | some b0 => rw [hb] at h; exact ⟨b0, rfl, (Option.some.inj h).symm⟩
/-- What holds a slice that was let go of now holds it by value. -/
theorem swap_W (h : WRel G B w0 S H pl w) {S' : Sto} {H' : List Blk} {id ver : Nat} {y : AV} (hE : Ext B S H pl S' H' pl) (hW : WRel G B w0 S' H' pl w) (hv : ∀ (k : Nat) cs, H'[k]? = some (.var cs) → H[k]? = some (.var cs)) (hy : ∀ u, Rep S H pl (.own id ver) u → RepV S' y u) :
    WRel G B w0 S' (H'.map (Blk.swap id ver y)) pl w := by
  have hE2 := Ext.swap (B := B) S' H' pl id ver y
  have hl : ∀ k b, live (H'.map (Blk.swap id ver y)) pl k b → live H' pl k b := fun k b ⟨⟨x, hx, hl⟩, hc⟩ => by
    obtain ⟨b0, h0, rfl⟩ := swap_get hx
    exact ⟨⟨b0, h0, by cases b0 <;> exact hl⟩, hc⟩
  refine ⟨⟨fun k cs hk => ?_, fun k e' sz' v bv es hk => ?_, fun k k' b l l' => hW.h.apart k k' b (hl _ _ l) (hl _ _ l'), fun a u ha k l => hW.h.sep a u ha k (hl _ _ l)⟩, hW.imm, hW.below, hW.base, hW.g⟩
  · obtain ⟨b0, h0, e⟩ := swap_get hk
    cases b0 with
    | var cs0 =>
      cases e
      obtain ⟨b, c, us, t, a1, a2, a3, a4, a5⟩ := h.h.var k cs0 (hv k cs0 h0)
      refine ⟨b, c, us, t, a1, a2, a3, ⟨by rw [a4.1, List.length_map], fun j x u hx hu => ?_⟩, a5⟩
      rw [List.getElem?_map] at hx
      cases hx0 : cs0[j]? with
      | none => rw [hx0] at hx; cases hx
      | some x0 =>
        rw [hx0] at hx
        obtain rfl := Option.some.inj hx
        have hr := a4.2 j x0 u hx0 hu
        cases x0 with
        | own i v =>
          simp only [AV.swap]
          split
          · rename_i hq
            obtain ⟨rfl, rfl⟩ := hq
            exact .val _ _ (hy u hr)
          · exact (hr.mono hE).mono hE2
        | _ => exact (hr.mono hE).mono hE2
    | grow => cases e
    | dead => cases e
  · obtain ⟨b0, h0, e⟩ := swap_get hk
    cases b0 with
    | var => cases e
    | grow =>
      cases e
      obtain ⟨a1, a2, a3, a4, xs, a5, a6, a7⟩ := hW.h.grow _ _ _ _ _ _ h0
      exact ⟨a1, a2, a3, a4, xs, a5, a6.mono fun x u r => r.mono hE2, a7⟩
    | dead => cases e
theorem frz_sound (h : WRel G B w0 S H pl w) (x : AV) {u : Value} (hx : Rep S H pl x u) : ∃ S', Ext B S H pl S' (frz H x).2 pl ∧ WRel G B w0 S' (frz H x).2 pl w ∧ Rep S' (frz H x).2 pl (frz H x).1 u := by
  cases x with
  | own id ver =>
    simp only [frz]
    split
    · rename_i e sz v es hH
      split
      · rename_i hv
        subst hv
        obtain ⟨S', hE, hW, hR⟩ := freezes h hH
        exact ⟨S', hE.trans (Ext.swap _ _ _ _ _ _), swap_W h hE hW (fun k cs hk => (dead_get hk trivial).2) hR, .val _ _ (hR _ hx)⟩
      · exact ⟨S, Ext.refl _ _ _, h, hx⟩
    · exact ⟨S, Ext.refl _ _ _, h, hx⟩
  | z b sz =>
    refine ⟨S, Ext.refl _ _ _, h, ?_⟩
    cases hx with
    | val _ _ r => cases r with
      | znil => exact .val _ _ (.nil _ _)
      | zsome _ a => exact .val _ _ (.lst _ _ _ _ a _ (fun _ _ => undef) (Nat.le_refl _) (Nat.le_refl _) (fun i hi => by omega) (fun i j hi => by omega) (fun i j x hi => by omega) (fun i j hi => by omega))
  | _ => exact ⟨S, Ext.refl _ _ _, h, hx⟩
theorem frzs_sound : ∀ (cs : List AV) (us : List Value) {S : Sto} {H : List Blk}, WRel G B w0 S H pl w → Cs (Rep S H pl) cs us → ∃ S', Ext B S H pl S' (frzs cs H).2 pl ∧ WRel G B w0 S' (frzs cs H).2 pl w ∧ Cs (Rep S' (frzs cs H).2 pl) (frzs cs H).1 us
  | [], us, S, H, h, hc => by
    obtain rfl := hc.nil_inv
    exact ⟨S, Ext.refl _ _ _, h, Cs.nil⟩
  | x :: cs, us, S, H, h, hc => by
    obtain ⟨u, us', rfl, h1, h2⟩ := hc.tail
    obtain ⟨S1, hE1, hW1, hR1⟩ := frz_sound h x h1
    obtain ⟨S2, hE2, hW2, hR2⟩ := frzs_sound cs us' hW1 (h2.mono fun x u r => r.mono hE1)
    exact ⟨S2, hE1.trans hE2, hW2, Cs.cons (hR1.mono hE2) hR2⟩
theorem op_freeze {tmps : List AV} {a : Act} {o : Oper} {t : Nat} {x : Operand} {lo hi mx : Option Operand} {id ver : Nat} {y z : AV} (hT : TdOk P C) (ht : TRel S H pl tmps a) (h : WRel G B w0 S H pl w) (ho : o.op = .slice t x lo hi mx)
    (hx : evA tmps x = .own id ver) (hv : AV.val H (.own id ver) = some y) (e : sliceA (C.td t) y (lo.map (evA tmps)) (hi.map (evA tmps)) (mx.map (evA tmps)) = some z) : OpW P G B w0 o a S H pl w z (H.set id .dead) := by
  have hu := ht.ev x
  rw [hx] at hu
  simp only [AV.val] at hv
  split at hv
  · rename_i e' sz v es hH
    split at hv
    · rename_i hver
      subst hver
      obtain rfl := Option.some.inj hv
      obtain ⟨S', hE, hW, hR⟩ := freeze h hH hu
      obtain ⟨r, hr, hz⟩ := sliceA_sound (w := w) hT ht (Rep.val (H := H.set id .dead) (pl := pl) _ _ hR) e
      exact .run (by simp [execOp, ho, hr]) hE hW hz
    · cases hv
  · cases hv
/-- The world turns in a block that is nobody's, and reads the same. -/
theorem WRel.mark (hG : ∀ w', Below B w0 w' → G w') (h : WRel G B w0 S H pl w) {g : Nat} {w2 : World} (hg : B ≤ g) (hnl : ∀ k, ¬ live H pl k g) (hh : ∀ b, b ≠ g → w2.heap[b]? = w.heap[b]?) (hc : ∀ a v, w.cell? a = some v → w2.cell? a = some v) (hs : w2.heap.size = w.heap.size)
    (h1 : w2.os = w.os) (h2 : w2.tape = w.tape) (h3 : w2.output = w.output) : WRel G B w0 S H pl w2 := by
  have hb : Below B w0 w2 := ⟨h1.trans h.below.os, h2.trans h.below.tape, h3.trans h.below.output, by rw [hs]; exact h.below.size, fun k hk => (hh k (by omega)).trans (h.below.block k hk)⟩
  refine ⟨⟨fun k cs e => ?_, fun k e sz v bv es q => ?_, h.h.apart, h.h.sep⟩, fun a u e => hc a u (h.imm a u e), hb, by rw [hs]; exact h.base, hG _ hb⟩
  · obtain ⟨b, c, us, t, hp, hB, hhe, hcs, ho⟩ := h.h.var k cs e
    refine ⟨b, c, us, t, hp, hB, ?_, hcs, ho⟩
    rw [hh b fun e' => hnl k ⟨⟨_, e, trivial⟩, c, by rw [← e']; exact hp⟩]
    exact hhe
  · obtain ⟨a1, a2, a3, a4, xs, ⟨a5, a6⟩, a7, a8⟩ := h.h.grow k e sz v bv es q
    refine ⟨a1, a2, a3, a4, xs, ⟨a5, ?_⟩, a7, a8⟩
    rcases a6 with a6 | ⟨g', cap, cur, b1, b2, b3, b4⟩
    · exact .inl a6
    · refine .inr ⟨g', cap, cur, b1, b2, ?_, b4⟩
      rw [hh g' fun e' => ?_]
      · exact b3
      · refine hnl k ⟨⟨_, q, trivial⟩, cap, ?_⟩
        rw [← e']
        cases hp : pl k with
        | none => rw [hp] at b1; simp [slv] at b1
        | some bc =>
          obtain ⟨b', c'⟩ := bc
          rw [hp] at b1
          simp [slv] at b1
          obtain ⟨rfl, rfl⟩ := b1
          rfl
theorem freeze_heap (w : World) (a : Addr) (n b : Nat) (h : b ≠ a.block) : (w.freeze a n).heap[b]? = w.heap[b]? := by
  unfold World.freeze
  split
  · rfl
  · simp only [Array.getElem?_modify]
    rw [if_neg (fun e => h e.symm)]
theorem freeze_size (w : World) (a : Addr) (n : Nat) : (w.freeze a n).heap.size = w.heap.size := by
  unfold World.freeze
  split
  · rfl
  · simp
theorem freeze_cell (w : World) (a : Addr) (n : Nat) (p : Addr) (v : Value) (h : w.cell? p = some v) : (w.freeze a n).cell? p = some v := by
  unfold World.freeze
  split
  · exact h
  · unfold World.cell? at h ⊢
    simp only [Array.getElem?_modify]
    by_cases e : a.block = p.block
    · rw [if_pos e]
      cases ho : w.heap[p.block]? with
      | none => rw [ho] at h; cases h
      | some o =>
        rw [ho] at h
        cases o with
        | cells c t fr => obtain ⟨lo, hi⟩ := fr; exact h
        | _ => exact h
    · rw [if_neg e]
      exact h
theorem op_mark {tmps : List AV} {a : Act} {o : Oper} {src : Nat} {x : Operand} {y : AV} {H' : List Blk} (hG : ∀ w', Below B w0 w' → G w') (hT : TdOk P C) (ht : TRel S H pl tmps a) (h : WRel G B w0 S H pl w) (ho : o.op = .convert src src x)
    (e : markA (C.td src) (C.td (C.td src).elem) (evA tmps x) H = some (y, H')) : OpW P G B w0 o a S H pl w y H' := by
  have hx := ht.ev x
  unfold markA at e
  split at e
  · rename_i e' by' z id ver h1 h3 hxe
    rw [h1] at h3
    split at e
    · rename_i e1 v c es hH
      split at e
      · rename_i hv
        subst hv
        simp only [Option.some.injEq, Prod.mk.injEq] at e
        obtain ⟨rfl, rfl⟩ := e
        rw [hxe] at hx
        obtain ⟨hu1, _⟩ := hT.sl src _ _ _ h1
        obtain ⟨⟨d3, hu3, _, hk3⟩, _⟩ := hT.one _ _ h3
        have e3 : d3 = .int .u8 := hk3
        subst e3
        obtain ⟨S', hE, hW, hR⟩ := freeze h hH hx
        obtain ⟨a1, a2, a3, a4, xs, ⟨a5, a6⟩, a7, a8⟩ := h.h.grow id _ _ _ _ _ hH
        have hu : a.eval x = slv (pl id) (c :: es).length := by
          cases hx with
          | val _ _ r => cases r
          | own _ _ _ hi q k => exact (k _ _ _ _ _ hH).2 rfl
        rcases a6 with ⟨_, a6⟩ | ⟨g, cap, cur, b1, b2, b3, b4⟩
        · simp at a6
        · have hp : pl id = some (g, cap) := by
            cases hp : pl id with
            | none => rw [hp] at b1; simp [slv] at b1
            | some bc =>
              obtain ⟨b', c'⟩ := bc
              rw [hp] at b1
              simp [slv] at b1
              obtain ⟨rfl, rfl⟩ := b1
              rfl
          have hsh : w.shape? g = some (e1, cur.size) := by
            unfold World.shape?
            rw [b3]
          have hr : (execOp a.eval o).run P w = .ok (.value (slv (pl id) (c :: es).length)) (w.freeze ⟨g, cur.size, none⟩ 1) := by
            simp only [execOp, ho, hu]
            rw [b1]
            have hu4 : P.underlying e' = some (.int .u8) := hu3
            simp [convert, run_underlying hu1, run_underlying hu4, markStringish, hsh]
          refine .run hr hE (hW.mark hG b2 (fun k l => ?_) (fun b hb => freeze_heap w _ _ b hb) (fun p v hv => freeze_cell w _ _ p v hv) (freeze_size w _ _) ?_ ?_ ?_) (.val _ _ ?_)
          · obtain ⟨⟨xk, hk, hlk⟩, hck⟩ := l
            obtain ⟨hne, hk0⟩ := dead_get hk hlk
            exact hne (h.h.apart k id g ⟨⟨xk, hk0, hlk⟩, hck⟩ ⟨⟨_, hH, trivial⟩, cap, hp⟩)
          · unfold World.freeze; split <;> rfl
          · unfold World.freeze; split <;> rfl
          · unfold World.freeze; split <;> rfl
          · rw [← hu]; exact hR
      · cases e
    · cases e
  · cases e
end
end Go.Proofs.YtalkodandfjkmaaDoor.Av

/- What the interpreter answers, the program answers. -/
set_option linter.unusedVariables false
set_option linter.unusedSimpArgs false
namespace Go.Proofs.YtalkodandfjkmaaDoor.Av
open Go Go.RowKit
variable {P : Program}
section
variable {S : Sto} {H : List Blk} {pl : Pl} {G : World → Prop} {B : Nat} {w0 w : World} {C : Ctx}

theorem op_call {call : Nat → List AV → List Blk → Option (AV × List Blk)} {tmps : List AV} {a : Act} {o : Oper} {c : Call} {f : Operand} {n : Nat} {caps : List AV} {y : AV} {H' : List Blk} (hK : CtxOk P C G) (hC : CallOk P C G B w0 call) (ht : TRel S H pl tmps a) (h : WRel G B w0 S H pl w)
    (ho : o.op = .call c) (hc : c.callee = .value f) (hf : evA tmps f = .fn n caps) (e : call n (c.args.toList.map (evA tmps) ++ caps) H = some (y, H')) : OpW P G B w0 o a S H pl w y H' := by
  obtain ⟨⟨fn, hfn⟩, hcall⟩ := hC _ _ _ _ _ e
  obtain ⟨hn, hb, hname⟩ := hK.fn n fn hfn
  have hff := ht.ev f
  rw [hf] at hff
  obtain ⟨us, hu, hcap⟩ := hff.fn_inv
  have hargs := (evs_args ht c.args.toList).append hcap
  intro next Q k
  unfold Oper.wp
  rw [exec_call ho hc hu hn hb hname, Oper.upon_enter]
  have e1 : c.args.map a.eval ++ us.toArray = (c.args.toList.map a.eval ++ us).toArray := by
    rw [← List.append_toArray]
    congr 1
    rw [← List.map_toArray, Array.toArray_toList]
  rw [e1]
  refine (hcall S pl w _ hargs h).mono ?_
  rintro e w' ⟨u, S', pl', rfl, hE, hW, hR⟩
  exact k u S' pl' w' hE hW hR

theorem evOpE_sound {call : Nat → List AV → List Blk → Option (AV × List Blk)} {tmps : List AV} {a : Act} {o : Oper} {y : AV} {H' : List Blk} (hG : ∀ w', Below B w0 w' → G w') (hK : CtxOk P C G) (hC : CallOk P C G B w0 call) (ht : TRel S H pl tmps a) (h : WRel G B w0 S H pl w)
    (e : evOpE C call tmps H o = some (y, H')) : OpW P G B w0 o a S H pl w y H' := by
  unfold evOpE at e
  split at e
  · rename_i ho
    split at e
    · rename_i e' sz by' htd
      simp only [Option.some.injEq, Prod.mk.injEq] at e
      obtain ⟨rfl, rfl⟩ := e
      exact op_nil hG hK.td ht h ho htd
    · cases e
  · rename_i t x lo hi mx ho
    split at e
    · cases e
    · split at e
      · rename_i id ver hx
        split at e
        · rename_i z hz
          split at e
          · rename_i z' hz'
            simp only [Option.some.injEq, Prod.mk.injEq] at e
            obtain ⟨rfl, rfl⟩ := e
            exact op_freeze hK.td ht h ho hx hz hz'
          · cases e
        · cases e
      · cases e
  · rename_i src dst x ho
    split at e
    · rename_i z hz
      simp only [Option.some.injEq, Prod.mk.injEq] at e
      obtain ⟨rfl, rfl⟩ := e
      exact op_conv hK.td ht h ho hz
    · split at e
      · rename_i hsd
        subst hsd
        exact op_mark hG hK.td ht h ho e
      · cases e
  · rename_i t ho
    split at e
    · rename_i e' sz by' htd
      simp only [Option.some.injEq, Prod.mk.injEq] at e
      obtain ⟨rfl, rfl⟩ := e
      exact op_alloc_sl hG hK.td ht h ho htd
    · split at e
      · rename_i zs hz
        simp only [Option.some.injEq, Prod.mk.injEq] at e
        obtain ⟨rfl, rfl⟩ := e
        exact op_alloc hG hK.td ht h ho hz
      · cases e
  · rename_i t x ho
    split at e
    · rename_i hz
      simp only [Option.some.injEq, Prod.mk.injEq] at e
      obtain ⟨rfl, rfl⟩ := e
      exact op_box hG ht h ho hz
    · cases e
  · rename_i t x z ho
    split at e
    · rename_i H1 hs
      simp only [Option.some.injEq, Prod.mk.injEq] at e
      obtain ⟨rfl, rfl⟩ := e
      obtain ⟨w', pl', hr, hE, hW⟩ := store_sound hG hK.td h (ht.ev x) (zsl_rep (ht.ev z)) hs
      exact .skip (by simp only [execOp, ho, Sem.run_bind, hr, Result.andThen_ok, Sem.run_pure]) hE hW
    · cases e
  · rename_i t n parts ho
    split at e
    · rename_i e' sz by' htd
      split at e
      · rename_i zs hzs
        split at e
        · rename_i hn
          split at e
          · rename_i cs hcs
            simp only [Option.some.injEq, Prod.mk.injEq] at e
            obtain ⟨rfl, rfl⟩ := e
            exact op_buildSlice hG hK.td ht h ho htd hzs hn hcs fun us hu => frzs_sound cs us h hu
          · cases e
        · split at e
          · rename_i hn
            simp only [Option.some.injEq, Prod.mk.injEq] at e
            obtain ⟨rfl, rfl⟩ := e
            obtain ⟨rfl, hp⟩ := hn
            exact op_buildNil hG hK.td ht h ho hp htd
          · cases e
      · cases e
    · cases e
  · rename_i c ho
    split at e
    · rename_i hc
      split at e
      · rename_i s x t t' hargs hts
        split at e
        · rename_i htt
          subst htt
          split at e
          · rename_i e' sz by' htd
            exact op_append hG hK.td ht h ho hc hargs hts htd e
          · cases e
        · cases e
      · cases e
    · rename_i f hc
      split at e
      · rename_i r Hr hr
        simp only [Option.some.injEq, Prod.mk.injEq] at e
        obtain ⟨rfl, rfl⟩ := e
        exact callMA_op hK ht h ho hc hr
      · split at e
        · rename_i n caps hf
          exact op_call hK hC ht h ho hc hf e
        · cases e
    · cases e
  · cases e

theorem evOp_sound {call : Nat → List AV → List Blk → Option (AV × List Blk)} {tmps : List AV} {a : Act} {o : Oper} {y : AV} {H' : List Blk} (hG : ∀ w', Below B w0 w' → G w') (hK : CtxOk P C G) (hC : CallOk P C G B w0 call) (ht : TRel S H pl tmps a) (h : WRel G B w0 S H pl w)
    (e : evOp C P call tmps H o = some (y, H')) : OpW P G B w0 o a S H pl w y H' := by
  unfold evOp at e
  split at e
  · rename_i r hr
    obtain rfl := Option.some.inj e
    exact evOpE_sound hG hK hC ht h hr
  · split at e
    · rename_i x hx
      simp only [Option.some.injEq, Prod.mk.injEq] at e
      obtain ⟨rfl, rfl⟩ := e
      exact evOpQ_sound hG hK ht h hx
    · cases e

theorem wantA_sound {ops : Array Oper} {tmps : List AV} {a : Act} {o : Oper} {b : Bool} (ht : TRel S H pl tmps a) (e : wantA ops tmps o = some b) : Region.wanted o (yielded ops a.tmps) = b := by
  unfold wantA at e
  unfold Region.wanted
  split at e
  · rename_i hg
    obtain rfl := Option.some.inj e
    simp [hg]
  · rename_i j b' hg
    simp only [hg]
    split at e
    · rename_i d hd
      split at e
      · rename_i t htd
        obtain rfl := Option.some.inj e
        have hv := ht.ev (.tmp d)
        rw [show evA tmps (.tmp d) = .v (.bool t) from htd] at hv
        have hv := hv.v_inv
        have hget : a.tmps[d]? = some (.bool t) := by
          have hv' : a.tmps.getD d undef = .bool t := hv
          by_cases hds : d < a.tmps.size
          · simp [Array.getD, hds] at hv'
            rw [Array.getElem?_eq_getElem hds, hv']
          · simp [Array.getD, hds, undef] at hv'
        unfold yielded
        rw [hd]
        simp only [Option.bind_some, hget]
        cases t <;> cases b' <;> rfl
      · rename_i us htd
        obtain rfl := Option.some.inj e
        have hv := ht.ev (.tmp d)
        rw [show evA tmps (.tmp d) = .v (.tuple us) from htd] at hv
        have hv := hv.v_inv
        have hy : yielded ops a.tmps j = none := by
          unfold yielded
          rw [hd]
          simp only [Option.bind_some]
          by_cases hds : d < a.tmps.size
          · have hv' : a.tmps.getD d undef = .tuple us := hv
            simp [Array.getD, hds] at hv'
            rw [Array.getElem?_eq_getElem hds, hv']
          · rw [Array.getElem?_eq_none (Nat.le_of_not_lt hds)]
        rw [hy]
        cases b' <;> rfl
      · cases e
    · cases e

/-- What is owed behind a row of operations. -/
def Post (P : Program) (G : World → Prop) (B : Nat) (w0 : World) (S : Sto) (H : List Blk) (pl : Pl) (s : St) (K : Act → World → Prop) : Prop :=
  ∀ a S' pl' w', Ext B S H pl S' s.H pl' → WRel G B w0 S' s.H pl' w' → TRel S' s.H pl' s.tmps a → K a w'

theorem evOps_sound {call : Nat → List AV → List Blk → Option (AV × List Blk)} (hG : ∀ w', Below B w0 w' → G w') (hK : CtxOk P C G) (hC : CallOk P C G B w0 call) {ops : Array Oper} {Q : Exit → Act → World → Prop} : ∀ (l : List Oper) (s s' : St) (S : Sto) (pl : Pl) (a : Act) (w : World),
    evOps C P call ops l s = some s' → TRel S s.H pl s.tmps a → WRel G B w0 S s.H pl w → Post P G B w0 S s.H pl s' (Q .normal) → wpList P ops Q l a w
  | [], s, s', S, pl, a, w, e, ht, h, k => by
    simp only [evOps, Option.some.injEq] at e
    subst e
    exact k a S pl w (Ext.refl _ _ _) h ht
  | o :: l, s, s', S, pl, a, w, e, ht, h, k => by
    simp only [evOps] at e
    split at e
    · rename_i hw
      have hw := wantA_sound ht hw
      split at e
      · rename_i x H' hx
        have hop := evOp_sound hG hK hC ht h hx
        unfold wpList
        rw [if_pos hw]
        refine .inl (hop _ _ fun u S' pl' w' hE hW hR => ?_)
        exact evOps_sound hG hK hC l _ s' S' pl' _ w' e ((ht.mono hE).put o.dst hR) hW fun a2 S2 pl2 w2 hE2 hW2 hT2 => k a2 S2 pl2 w2 (hE.trans hE2) hW2 hT2
      · cases e
    · rename_i hw
      have hw := wantA_sound ht hw
      unfold wpList
      rw [if_neg (by simp [hw])]
      exact evOps_sound hG hK hC l _ s' S pl _ w e (ht.put o.dst (.val _ _ (.v _))) h k
    · cases e

end
end Go.Proofs.YtalkodandfjkmaaDoor.Av

/- Quiet operations answer the same where own memory has grown behind. -/
set_option linter.unusedVariables false
set_option linter.unusedSimpArgs false
namespace Go.Proofs.YtalkodandfjkmaaDoor.Av
open Go Go.RowKit
variable {P : Program} {C : Ctx} {H : List Blk}

theorem get_more {i : Nat} {b : Blk} (E : List Blk) (h : H[i]? = some b) : (H ++ E)[i]? = some b := by
  rw [List.getElem?_append_left (List.getElem?_eq_some_iff.1 h).1]; exact h
mutual
theorem val_more (E : List Blk) : (x : AV) → ∀ {y : AV}, AV.val H x = some y → AV.val (H ++ E) x = some y
  | .own id ver, y, h => by
    simp only [AV.val] at h ⊢
    split at h
    · rename_i e sz v es hH
      rw [get_more E hH]
      exact h
    · cases h
  | .agg cs, y, h => by
    simp only [AV.val] at h ⊢
    cases hp : AV.vals H cs with
    | none => rw [hp] at h; cases h
    | some ds => rw [hp] at h; rw [vals_more E cs hp]; exact h
  | .tup cs, y, h => by
    simp only [AV.val] at h ⊢
    cases hp : AV.vals H cs with
    | none => rw [hp] at h; cases h
    | some ds => rw [hp] at h; rw [vals_more E cs hp]; exact h
  | .fn f cs, y, h => by
    simp only [AV.val] at h ⊢
    cases hp : AV.vals H cs with
    | none => rw [hp] at h; cases h
    | some ds => rw [hp] at h; rw [vals_more E cs hp]; exact h
  | .ifc t x, y, h => by
    simp only [AV.val] at h ⊢
    cases hp : AV.val H x with
    | none => rw [hp] at h; cases h
    | some ds => rw [hp] at h; rw [val_more E x hp]; exact h
  | .gpt _ _ _ _, y, h => by simp [AV.val] at h
  | .ptr _ _, y, h => by simp [AV.val] at h
  | .any, y, h => by simpa only [AV.val] using h
  | .v x, y, h => by simpa only [AV.val] using h
  | .lst _ _ _ _, y, h => by simpa only [AV.val] using h
  | .z _ _, y, h => by simpa only [AV.val] using h
  | .ept _, y, h => by simpa only [AV.val] using h
theorem vals_more (E : List Blk) : (xs : List AV) → ∀ {ys : List AV}, AV.vals H xs = some ys → AV.vals (H ++ E) xs = some ys
  | [], ys, h => by simpa only [AV.vals] using h
  | x :: r, ys, h => by
    simp only [AV.vals] at h ⊢
    cases hx : AV.val H x with
    | none => rw [hx] at h; cases h
    | some y =>
      cases hr : AV.vals H r with
      | none => rw [hx, hr] at h; cases h
      | some rs => rw [hx, hr] at h; rw [val_more E x hx, vals_more E r hr]; exact h
end
theorem loadA_more (E : List Blk) {t : Nat} {x y : AV} (h : loadA C t x H = some y) : loadA C t x (H ++ E) = some y := by
  unfold loadA at h ⊢
  split at h <;> (try split at h) <;> first
    | cases h; done
    | (rename_i hH; simp only [get_more E hH]; exact h)
    | exact h
    | (rename_i hc; rw [if_pos hc]; exact h)
theorem lenA_more (E : List Blk) {x : AV} {n : Nat} (h : lenA x H = some n) : lenA x (H ++ E) = some n := by
  unfold lenA at h ⊢
  split at h <;> (try split at h) <;> first
    | cases h; done
    | (rename_i hH; simp only [get_more E hH]; exact h)
    | exact h
theorem idxA_more (E : List Blk) {sz : Nat} {x y : AV} {i : Int} (h : idxA sz x i H = some y) : idxA sz x i (H ++ E) = some y := by
  unfold idxA at h ⊢
  cases x with
  | own id ver =>
    simp only at h ⊢
    split at h
    · rename_i hH; rw [get_more E hH]; exact h
    · cases h
  | _ => first | exact h | cases h
theorem zeroA_more (E : List Blk) {d : TD} {x y : AV} (h : zeroA d x H = some y) : zeroA d x (H ++ E) = some y := by
  unfold zeroA at h ⊢
  cases d with
  | sl e sz b =>
    cases x with
    | own id ver =>
      simp only at h ⊢
      split at h
      · rename_i hH; rw [get_more E hH]; exact h
      · cases h
    | _ => first | exact h | cases h
  | _ => cases h
theorem fieldA_more (E : List Blk) {x y : AV} {o : Nat} (h : fieldA x o H = some y) : fieldA x o (H ++ E) = some y := by
  unfold fieldA at h ⊢
  cases x with
  | ptr a off =>
    simp only at h ⊢
    split at h
    · rename_i hH; rw [get_more E hH]; exact h
    · cases h
  | gpt id ver i off =>
    simp only at h ⊢
    split at h
    · rename_i hH; rw [get_more E hH]; exact h
    · cases h
  | _ => first | exact h | cases h
theorem callMA_more (E : List Blk) {f : AV} {args : List AV} {r : AV × List Blk} (h : callMA C f args H = some r) : callMA C f args (H ++ E) = some r := by
  unfold callMA at h ⊢
  split at h
  · split at h
    · split at h
      · rename_i hv
        rw [vals_more E _ hv]
        exact h
      · cases h
    · cases h
  · cases h
theorem evOpQ_more (E : List Blk) {tmps : List AV} {o : Oper} {x : AV} (h : evOpQ C P tmps H o = some x) : evOpQ C P tmps (H ++ E) o = some x := by
  cases ho : o.op with
  | load t y => simp only [evOpQ, ho] at h ⊢; exact loadA_more E h
  | nilCheck y =>
    simp only [evOpQ, ho] at h ⊢
    cases hy : evA tmps y with
    | ptr a off =>
      rw [hy] at h
      simp only at h ⊢
      split at h
      · rename_i hH; rw [get_more E hH]; exact h
      · cases h
    | ept cs => rw [hy] at h; exact h
    | _ => rw [hy] at h; cases h
  | fieldAddr t y f =>
    simp only [evOpQ, ho] at h ⊢
    split at h
    · split at h
      · exact fieldA_more E h
      · cases h
    · cases h
  | indexAddr t y i =>
    simp only [evOpQ, ho] at h ⊢
    split at h
    · exact idxA_more E h
    · cases h
  | slice t y lo hi mx =>
    simp only [evOpQ, ho] at h ⊢
    split at h
    · exact zeroA_more E h
    · exact h
  | call c =>
    cases hc : c.callee with
    | value f =>
      simp only [evOpQ, ho, hc] at h ⊢
      cases hm : callMA C (evA tmps f) (c.args.toList.map (evA tmps)) H with
      | none => rw [hm] at h; cases h
      | some r => rw [hm] at h; rw [callMA_more E hm]; exact h
    | invoke r m => simp only [evOpQ, ho, hc] at h; cases h
    | builtin b =>
      have key : b ≠ .len → evOpQ C P tmps (H ++ E) o = evOpQ C P tmps H o := fun hb => by
        unfold evOpQ
        simp only [ho, hc]
        cases b <;> first | (exact absurd rfl hb) | rfl
      by_cases hb : b = .len
      · subst hb
        simp only [evOpQ, ho, hc] at h ⊢
        split at h
        · rename_i x t ha ht
          cases htd : C.td t with
          | sl e sz by' =>
            rw [htd] at h
            simp only at h ⊢
            cases hl : lenA (evA tmps x) H with
            | none => simp only [hl] at h; cases h
            | some n => simp only [hl] at h; simp only [lenA_more E hl]; exact h
          | one z =>
            rw [htd] at h
            cases hx : evA tmps x with
            | v u => rw [hx] at h; cases z <;> first | (cases h; done) | (cases u <;> first | (cases h; done) | exact h)
            | _ => rw [hx] at h; cases z <;> cases h
          | _ => rw [htd] at h; cases h
        · cases h
      · rw [key hb]; exact h
  | binOp b t x y t' =>
    have key : evOpQ C P tmps (H ++ E) o = evOpQ C P tmps H o := by
      unfold evOpQ
      rw [ho]
      cases b <;> rfl
    rw [key]; exact h
  | makeFunc fn first caps =>
    have key : evOpQ C P tmps (H ++ E) o = evOpQ C P tmps H o := by
      unfold evOpQ
      rw [ho]
      cases fn <;> rfl
    rw [key]; exact h
  | _ => simp only [evOpQ, ho] at h ⊢; exact h
end Go.Proofs.YtalkodandfjkmaaDoor.Av
