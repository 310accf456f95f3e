/- An interpreter of the program's form in Lean over plain values: lists and structs by value, own memory by handles. What it answers, the program's calls answer (proved in the text behind). -/
import Derived.WalkKit
import Derived.Orders
import Derived.Laws.AppendOwn
set_option linter.unusedVariables false
namespace Go.Proofs.Ytkifbcjmmkbilaa.Av
open Go Go.RowKit

/-- Values: 'lst' a slice by value (what it holds never turns; m elements are known, n of them are its own), 'own' a slice that the code itself made and may write, 'ptr' a place of the code's own memory, 'ept' a place by value. -/
inductive AV where
  | any
  | v (x : Value)
  | lst (sz n m : Nat) (get : Nat → List AV)
  | ept (cells : List AV)
  | own (id ver : Nat)
  | gpt (id ver i off : Nat)
  | ptr (h off : Nat)
  | agg (cs : List AV)
  | tup (vs : List AV)
  | fn (f : Nat) (cap : List AV)
  | ifc (t : Nat) (x : AV)
  | z (nil : Bool) (sz : Nat)
  | cut (id ver n : Nat)

/-- Blocks of the code's own: a variable's cells, a slice that may grow (its elements, each with its cells). -/
inductive Blk where
  | var (cs : List AV)
  | grow (e sz ver : Nat) (bv : Bool) (es : List (List AV))
  | dead

structure St where
  tmps : List AV
  H : List Blk
  base : Nat

inductive Ex where
  | norm
  | exit (id : Nat)
  | ret

/-- What the interpreter must know of a type. -/
inductive TD where
  | one (z : Value)
  | agg (sz : Nat) (fs : List (Nat × Nat × Bool)) (zs : List Value)
  | sl (e sz bytes : Nat)
  | no

structure Ctx where
  td : Nat → TD
  conc : Nat → Bool
  eqs : Nat → List Nat
  fn : Nat → Option Func
  zz : Nat → List Nat
  kl : List (List Nat × List Nat × List Nat)
  oz : Nat → List (Nat × Nat)
  fz : List Nat
  m : Nat → Option (List AV → Option (AV × List Blk))
  sq : Nat → Option (List AV → Option (List (List AV)))
  cu : Bool

namespace AV
def cells : AV → List AV
  | .agg cs => cs
  | x => [x]
def atom : AV → Bool
  | .v x => x.oneCell'
  | .agg _ | .tup _ | .any => false
  | _ => true
end AV

mutual
/-- No handle from n on. -/
def AV.hb (n : Nat) : AV → Bool
  | .own id _ | .gpt id _ _ _ | .ptr id _ | .cut id _ _ => decide (id < n)
  | .agg cs | .tup cs | .fn _ cs => AV.hbs n cs
  | .ifc _ x => AV.hb n x
  | .any | .v _ | .lst .. | .ept _ | .z .. => true
def AV.hbs (n : Nat) : List AV → Bool
  | [] => true
  | x :: r => AV.hb n x && AV.hbs n r
end

mutual
/-- Does it hold nothing but itself (no slice, no place)? -/
def AV.flat : AV → Bool
  | .v _ | .z .. => true
  | .agg cs | .tup cs => AV.flats cs
  | .ifc _ x => AV.flat x
  | _ => false
def AV.flats : List AV → Bool
  | [] => true
  | x :: r => AV.flat x && AV.flats r
end

mutual
/-- Does it hold nothing but itself and own memory? -/
def AV.flo : AV → Bool
  | .v _ | .own _ _ | .any | .z .. | .ptr _ _ => true
  | .agg cs | .tup cs | .fn _ cs => AV.flos cs
  | .ifc _ x => AV.flo x
  | _ => false
def AV.flos : List AV → Bool
  | [] => true
  | x :: r => AV.flo x && AV.flos r
end

mutual
/-- The real value, where there is no address in it. -/
def AV.plain : AV → Option Value
  | .v x => some x
  | .agg cs => match AV.plains cs with | some us => some (.agg us.toArray) | none => none
  | .ifc t x => match AV.plain x with | some u => some (.iface t u) | none => none
  | _ => none
def AV.plains : List AV → Option (List Value)
  | [] => some []
  | x :: r => match AV.plain x, AV.plains r with
    | some u, some us => some (u :: us)
    | _, _ => none
end

/-- By value, of one cell. -/
def AV.val1 (H : List Blk) : AV → Option AV
  | .own id ver => match H[id]? with
    | some (.grow _ sz ver' true es) => if ver = ver' then some (.lst sz es.length es.length fun i => es.getD i []) else none
    | _ => none
  | .any => some .any
  | .v x => some (.v x)
  | .lst sz n m get => some (.lst sz n m get)
  | .z _ sz => some (.lst sz 0 0 (fun i => if i < 0 then [] else []))
  | .ept cs => some (.ept cs)
  | _ => none
def AV.val1s (H : List Blk) : List AV → Option (List AV)
  | [] => some []
  | x :: r => match AV.val1 H x, AV.val1s H r with
    | some y, some ys => some (y :: ys)
    | _, _ => none
mutual
/-- By value: own slices read as they stand now. -/
def AV.val (H : List Blk) : AV → Option AV
  | .own id ver => match H[id]? with
    | some (.grow _ sz ver' true es) => if ver = ver' then some (.lst sz es.length es.length fun i => es.getD i []) else none
    | _ => none
  | .agg cs => match AV.vals H cs with | some ds => some (.agg ds) | none => none
  | .tup cs => match AV.vals H cs with | some ds => some (.tup ds) | none => none
  | .fn f cs => match AV.vals H cs with | some ds => some (.fn f ds) | none => none
  | .ifc t x => match AV.val H x with | some y => some (.ifc t y) | none => none
  | .gpt .. => none
  | .ptr h off => match H[h]? with
    | some (.var cs) => match AV.val1s H (cs.drop off) with | some ds => some (.ept ds) | none => none
    | _ => none
  | .cut id ver n => match H[id]? with
    | some (.grow _ sz ver' true es) => if ver = ver' then some (.lst sz n es.length fun i => es.getD i []) else none
    | _ => none
  | .any => some .any
  | .v x => some (.v x)
  | .lst sz n m get => some (.lst sz n m get)
  | .z _ sz => some (.lst sz 0 0 (fun i => if i < 0 then [] else []))
  | .ept cs => some (.ept cs)
def AV.vals (H : List Blk) : List AV → Option (List AV)
  | [] => some []
  | x :: r => match AV.val H x, AV.vals H r with
    | some y, some ys => some (y :: ys)
    | _, _ => none
end

mutual
/-- The handles moved on by k. -/
def AV.shift (k : Nat) : AV → AV
  | .own id ver => .own (id + k) ver
  | .gpt id ver i off => .gpt (id + k) ver i off
  | .ptr h off => .ptr (h + k) off
  | .cut id ver n => .cut (id + k) ver n
  | .agg cs => .agg (AV.shifts k cs)
  | .tup cs => .tup (AV.shifts k cs)
  | .fn f cs => .fn f (AV.shifts k cs)
  | .ifc t x => .ifc t (AV.shift k x)
  | .any => .any
  | .v x => .v x
  | .lst sz n m get => .lst sz n m get
  | .ept cs => .ept cs
  | .z b sz => .z b sz
def AV.shifts (k : Nat) : List AV → List AV
  | [] => []
  | x :: r => AV.shift k x :: AV.shifts k r
end
def Blk.shift (k : Nat) : Blk → Blk
  | .var cs => .var (AV.shifts k cs)
  | .grow e sz ver bv es => .grow e sz ver bv (if bv then es else es.map (AV.shifts k))
  | .dead => .dead
def Blk.flat : Blk → Bool
  | .grow _ _ _ _ es => es.all AV.flats
  | .var cs => AV.flos cs
  | _ => false
/-- A function that is answered is taken by value at once. -/
def takeV (r : AV) (Hr : List Blk) : Option AV := match r with
  | .fn _ _ => AV.val Hr r
  | _ => none

def evA (tmps : List AV) : Operand → AV
  | .tmp t => tmps.getD t .any
  | .const c => .v c
  | .global g => .v (.pointer (some ⟨g, 0, none⟩))
  | .func f => .fn f []

/-- What a Sem program answers that touches no memory. -/
def pureOut (P : Program) {α : Type} : Sem α → Option α
  | .pure a => some a
  | .mark _ k => pureOut P k
  | .program k => pureOut P (k P)
  | _ => none

/-- A slice is one cell where it is loaded. -/
def TD.ld : TD → TD
  | .sl .. => .one (.slice none 0 0)
  | d => d
def loadA (C : Ctx) (t : Nat) (x : AV) (H : List Blk) : Option AV :=
  match (C.td t).ld, x with
  | .one _, .ptr h off => match H[h]? with | some (.var cs) => cs[off]? | _ => none
  | .one _, .gpt id ver i off => match H[id]? with
    | some (.grow _ _ ver' _ es) => if ver = ver' then match es[i]? with | some c => c[off]? | none => none else none
    | _ => none
  | .one _, .ept cs => cs[0]?
  | .agg sz _ _, .ptr h off => match H[h]? with
    | some (.var cs) => if off + sz ≤ cs.length then some (.agg ((cs.drop off).take sz)) else none
    | _ => none
  | .agg sz _ _, .gpt id ver i off => match H[id]? with
    | some (.grow _ _ ver' _ es) => if ver = ver' then match es[i]? with
        | some c => if off + sz ≤ c.length then some (.agg ((c.drop off).take sz)) else none
        | none => none else none
    | _ => none
  | .agg sz _ _, .ept cs => if sz ≤ cs.length then some (.agg (cs.take sz)) else none
  | _, _ => none

def splice (cs : List AV) (off : Nat) (ds : List AV) : List AV := cs.take off ++ ds ++ cs.drop (off + ds.length)

/-- In an element a list without elements is told as such. -/
def dz : AV → AV
  | .z _ sz => .lst sz 0 0 (fun i => if i < 0 then [] else [])
  | x => x
def TD.size : TD → Nat
  | .one _ => 1
  | .agg sz _ _ => sz
  | .sl .. => 1
  | .no => 0

def storeA (C : Ctx) (t : Nat) (x y : AV) (H : List Blk) : Option (List Blk) :=
  let ds := y.cells
  if 0 < ds.length ∧ ds.length = (C.td t).size ∧ ds.all AV.atom = true then
    match x with
    | .ptr h off => match H[h]? with
      | some (.var cs) => if off + ds.length ≤ cs.length then some (H.set h (.var (splice cs off ds))) else none
      | _ => none
    | .gpt id ver i off => match H[id]? with
      | some (.grow e sz ver' bv es) => if ver = ver' then match es[i]? with
          | some c => if off + ds.length ≤ c.length then some (H.set id (.grow e sz ver (bv && AV.hbs 0 (ds.map dz)) (es.set i (splice c off (ds.map dz))))) else none
          | none => none else none
      | _ => none
    | _ => none
  else none

/-- Zero cells: a slice's tells the size of its elements. -/
def zAV : List Nat → List Value → List AV
  | _, [] => []
  | [], u :: r => .v u :: zAV [] r
  | k :: ks, u :: r => (match u, k with
    | .slice none 0 0, k + 1 => .z true (k + 1)
    | u, _ => .v u) :: zAV ks r
def TD.zero : TD → Option (List Value)
  | .one z => some [z]
  | .agg _ _ zs => some zs
  | .sl .. => some [.slice .none 0 0]
  | .no => .none

/-- A nil slice that is laid where the zero cell tells the size of elements keeps telling it. -/
def zfix : List AV → List AV → List AV
  | _, [] => []
  | [], x :: s => x :: s
  | z :: r, x :: s => (match z, x with
    | .z _ (k + 1), .v (.slice none 0 0) => .z true (k + 1)
    | _, x => x) :: zfix r s
/-- The parts laid into the cells, one behind the other. -/
def afill (place : Nat → Option (Nat × Nat)) (cs : List AV) : List (Nat × AV) → Option (List AV)
  | [] => some cs
  | (i, x) :: r => match place i with
    | none => none
    | some (off, size) => if x.cells.length = size ∧ off + size ≤ cs.length ∧ x.cells.all AV.atom = true then afill place (splice cs off (zfix (cs.drop off) x.cells)) r else none

def chunks (sz : Nat) : Nat → List AV → List (List AV)
  | 0, _ => []
  | n + 1, cs => cs.take sz :: chunks sz n (cs.drop sz)

/-- An element of a slice: its place. -/
def idxA (sz : Nat) (x : AV) (i : Int) (H : List Blk) : Option AV :=
  match x with
  | .lst s n _ get => if s = sz then if 0 ≤ i ∧ i < n then some (.ept (get i.toNat)) else none else none
  | .own id ver => match H[id]? with
    | some (.grow _ s ver' _ es) => if ver = ver' ∧ s = sz then if 0 ≤ i ∧ i < es.length then some (.gpt id ver i.toNat 0) else none else none
    | _ => none
  | .cut id ver n => match H[id]? with
    | some (.grow _ s ver' _ es) => if ver = ver' ∧ s = sz ∧ n ≤ es.length then if 0 ≤ i ∧ i < n then some (.gpt id ver i.toNat 0) else none else none
    | _ => none
  | _ => none

def lenA (x : AV) (H : List Blk) : Option Nat :=
  match x with
  | .lst _ n _ _ => some n
  | .own id ver => match H[id]? with
    | some (.grow _ _ ver' _ es) => if ver = ver' then some es.length else none
    | _ => none
  | .v (.slice _ n _) => some n
  | .z _ _ => some 0
  | .cut id ver n => match H[id]? with
    | some (.grow _ _ ver' _ es) => if ver = ver' then some n else none
    | _ => none
  | _ => none

/-- Held against nil, and of bools. -/
def eqNil : TD → AV → AV → Option Bool
  | .one .nilIface, .ifc _ _, .v .nilIface => some false
  | .one .nilIface, .v .nilIface, .ifc _ _ => some false
  | .one .nilIface, .v (.iface _ _), .v .nilIface => some false
  | .one .nilIface, .v .nilIface, .v (.iface _ _) => some false
  | .one .nilIface, .v .nilIface, .v .nilIface => some true
  | .one .nilFunc, .fn _ _, .v .nilFunc => some false
  | .one .nilFunc, .v .nilFunc, .v .nilFunc => some true
  | .one (.pointer none), .ept _, .v (.pointer none) => some false
  | .one (.pointer none), .v (.pointer none), .v (.pointer none) => some true
  | .one (.bool _), .v (.bool a), .v (.bool b) => some (a == b)
  | _, _, _ => none
def isConst : Operand → Bool
  | .const _ => true
  | _ => false
/-- Are two plain cells the same? -/
def scEq : Nat → Value → Value → Option Bool
  | 0, .int k a, .int k' b => if k = k' then some (decide (a = b)) else none
  | 1, .bool a, .bool b => some (a == b)
  | 2, .string a, .string b => some (decide (a = b))
  | _, _, _ => none
def scEqs : List Nat → List Value → List Value → Option Bool
  | [], [], [] => some true
  | k :: ks, a :: r, b :: s => match scEq k a b, scEqs ks r s with
    | some x, some y => some (x && y)
    | _, _ => none
  | _, _, _ => none
def plainsOf : List AV → Option (List Value)
  | [] => some []
  | .v x :: r => match plainsOf r with | some us => some (x :: us) | none => none
  | _ :: _ => none

/-- Operands that stand for plain values. -/
def evP (tmps : List AV) (x : Operand) : Option Value := AV.plain (evA tmps x)
def evR (tmps : List AV) (x : Operand) : Value := match AV.plain (evA tmps x) with | some u => u | none => undef

/-- What reads no memory: by the model's own operation, at plain operands. -/
def pureOp (P : Program) (tmps : List AV) (o : Oper) : Option AV :=
  if o.op.operands.toList.all (fun x => (evP tmps x).isSome) then
    match pureOut P (execOp (evR tmps) o) with
    | some (.value u) => some (.v u)
    | _ => none
  else none
/-- One cell or many, as a type has it. -/
def partOf (agg : Bool) (cs : List AV) : Option AV :=
  if agg then some (.agg cs) else match cs with | [x] => some x | _ => none

/-- A list's parts, and nothing behind its end. -/
def nrm (m : Nat) (get : Nat → List AV) : Nat → List AV := fun i => if i < m then get i else []
def boundA (d : Int) : Option AV → Option Int
  | none => some d
  | some (.v (.int _ l)) => some l
  | _ => none
def sliceA (d : TD) (x : AV) (lo hi mx : Option AV) : Option AV :=
  match d, x with
  | .sl _ sz' _, .lst sz n m get => if sz = sz' ∧ (mx.isNone || hi.isSome) = true then match boundA 0 lo, boundA n hi, boundA m mx with
      | some l, some h, some k => if 0 ≤ l ∧ l ≤ h ∧ h ≤ k ∧ k ≤ m then some (.lst sz (h.toNat - l.toNat) (k.toNat - l.toNat) (nrm (k.toNat - l.toNat) fun i => get (l.toNat + i))) else none
      | _, _, _ => none else none
  | .one (.string _), .v (.string s) => if mx.isNone = true then match boundA 0 lo, boundA s.size hi with
      | some l, some h => if 0 ≤ l ∧ l ≤ h ∧ h ≤ s.size then some (.v (.string (s.extract l.toNat h.toNat))) else none
      | _, _ => none else none
  | _, _ => none
/-- The first ones of an own list, which stays an own one. -/
def cutO (d : TD) (x : AV) (hi : Option AV) (H : List Blk) : Option AV :=
  match d, x, hi with
  | .sl _ sz _, .own id ver, some (.v (.int _ n)) => match H[id]? with
    | some (.grow _ s v _ es) => if s = sz ∧ v = ver ∧ 0 ≤ n ∧ n ≤ es.length then some (.cut id ver n.toNat) else none
    | _ => none
  | _, _, _ => none
def cutM (b : Bool) (d : TD) (x : AV) (hi : Option AV) (H : List Blk) : Option AV := match b with
  | true => cutO d x hi H
  | false => none
def maskA (b : Bool) (x : AV) : AV := match b with
  | true => .any
  | false => x
def cutIs : Bool → Option Operand → Option Operand → Bool
  | true, none, none => true
  | _, _, _ => false
/-- A part without elements and without room. -/
def zeroCut : Option Operand → Option Operand → Option Operand → Bool
  | none, some (.const (.int _ 0)), some (.const (.int _ 0)) => true
  | _, _, _ => false
def zeroA (d : TD) (x : AV) (H : List Blk) : Option AV := match d with
  | .sl _ sz _ => (match x with
    | .lst s _ _ _ => if s = sz then some (.z false sz) else none
    | .z _ s => if s = sz then some (.z false sz) else none
    | .own id ver => match H[id]? with
      | some (.grow _ s v _ _) => if ver = v ∧ s = sz then some (.z false sz) else none
      | _ => none
    | _ => none)
  | _ => none
def fieldA (x : AV) (o : Nat) (H : List Blk) : Option AV :=
  match x with
  | .ptr h off => match H[h]? with | some (.var _) => some (.ptr h (off + o)) | _ => none
  | .gpt id ver i off => match H[id]? with | some (.grow _ _ ver' _ _) => if ver = ver' then some (.gpt id ver i (off + o)) else none | _ => none
  | .ept cs => some (.ept (cs.drop o))
  | _ => none
def isBoolT : TD → Bool
  | .one (.bool _) => true
  | _ => false
/-- Are two the same? -/
def eqA (C : Ctx) (t : Nat) (c : Bool) (a b : AV) : Option Bool :=
  match a, b with
  | .agg cs, .agg ds => match plainsOf cs, plainsOf ds, C.eqs t with
    | some us, some vs, k :: ks => scEqs (k :: ks) us vs
    | _, _, _ => none
  | _, _ => if (c || isBoolT (C.td t)) = true then eqNil (C.td t) a b else none
def callMA (C : Ctx) (f : AV) (args : List AV) (H : List Blk) : Option (AV × List Blk) :=
  match f with
  | .fn n caps => match C.m n with
    | some m => match AV.vals H (args ++ caps) with
      | some as => match m as with
        | some (r, Hr) => if (r.flo && Hr.all Blk.flat) || AV.hbs 0 (args ++ caps) then some (r, Hr) else none
        | none => none
      | none => none
    | none => none
  | _ => none

/-- The larger or the smaller of two numbers. -/
def mmA : Bool → List AV → Option AV
  | true, [.v (.int k a), .v (.int _ b)] => some (.v (.int k (max a b)))
  | false, [.v (.int k a), .v (.int _ b)] => some (.v (.int k (min a b)))
  | _, _ => none
/-- Of texts. -/
def opS : BinOp → AV → AV → Option AV
  | .eql, .v (.string a), .v (.string b) => some (.v (.bool (decide (a = b))))
  | .neq, .v (.string a), .v (.string b) => some (.v (.bool (!decide (a = b))))
  | .shl, .v (.int k a), .v (.int _ (.ofNat n)) => some (.v (.int k (k.wrap (a * 2 ^ min n k.bits))))
  | .shr, .v (.int k a), .v (.int _ (.ofNat n)) => some (.v (.int k (a.fdiv (2 ^ min n k.bits))))
  | .rem, .v (.int k a), .v (.int k' b) => if k = k' ∧ ¬ b = 0 then some (.v (.int k (a.tmod b))) else none
  | .quo, .v (.int k a), .v (.int k' b) => if k = k' ∧ ¬ b = 0 then some (.v (.int k (k.wrap (a.tdiv b)))) else none
  | .add, .v (.string a), .v (.string b) => if a.size + b.size ≤ 9223372036854775807 then some (.v (.string (a ++ b))) else none
  | _, _, _ => none

/-- Operations that write nothing and make nothing. -/
def evOpQ (C : Ctx) (P : Program) (tmps : List AV) (H : List Blk) (o : Oper) : Option AV :=
  match o.op with
  | .move x | .assign x => some (evA tmps x)
  | .pick c a b => match evA tmps c with
    | .v (.bool t) => some (if t then evA tmps a else evA tmps b)
    | _ => none
  | .load t x => loadA C t (evA tmps x) H
  | .nilCheck x => match evA tmps x with
    | .ptr h off => match H[h]? with | some (.var _) => some (.ptr h off) | _ => none
    | .ept cs => some (.ept cs)
    | _ => none
  | .fieldAddr t x f => match C.td t with
    | .agg _ fs _ => match fs[f]? with
      | some (o, _, _) => fieldA (evA tmps x) o H
      | none => none
    | _ => none
  | .field t x f => match C.td t with
    | .agg _ fs _ => match fs[f]?, evA tmps x with
      | some (o, sz, ag), .agg cs => if o + sz ≤ cs.length then partOf ag ((cs.drop o).take sz) else none
      | _, _ => none
    | _ => none
  | .indexAddr t x i => match C.td t, evA tmps i with
    | .sl _ sz _, .v (.int _ n) => idxA sz (evA tmps x) n H
    | _, _ => none
  | .slice t x lo hi mx => match zeroCut lo hi mx with
    | true => zeroA (C.td t) (evA tmps x) H
    | false => match cutM (cutIs C.cu lo mx) (C.td t) (evA tmps x) (hi.map (evA tmps)) H with
      | some y => some y
      | none => sliceA (C.td t) (evA tmps x) (lo.map (evA tmps)) (hi.map (evA tmps)) (mx.map (evA tmps))
  | .makeInterface t x => if C.conc t then some (match AV.plain (evA tmps x) with | some u => .v (.iface t u) | none => .ifc t (evA tmps x)) else none
  | .makeFunc (.func f) first caps => if first.size = 0 then some (.fn f (caps.toList.map (evA tmps))) else none
  | .extract x i => match evA tmps x with
    | .tup vs => vs[i]?
    | .v (.tuple vs) => match vs[i]? with | some u => some (.v u) | none => none
    | _ => none
  | .binOp .eql t x y _ => match eqA C t (isConst x || isConst y) (evA tmps x) (evA tmps y) with
    | some r => some (.v (.bool r))
    | none => match opS .eql (evA tmps x) (evA tmps y) with
      | some r => some r
      | none => pureOp P tmps o
  | .binOp .neq t x y _ => match eqA C t (isConst x || isConst y) (evA tmps x) (evA tmps y) with
    | some r => some (.v (.bool (!r)))
    | none => match opS .neq (evA tmps x) (evA tmps y) with
      | some r => some r
      | none => pureOp P tmps o
  | .binOp b _ x y _ => match opS b (evA tmps x) (evA tmps y) with
    | some r => some r
    | none => pureOp P tmps o
  | .build t parts => match C.td t with
    | .agg _ fs zs => match afill (fun i => (fs[i]?).map fun f => (f.1, f.2.1)) (zAV (C.zz t) zs) (parts.toList.map fun p => (p.1, evA tmps p.2)) with
      | some cs => some (.agg cs)
      | none => none
    | _ => none
  | .unOp .. => pureOp P tmps o
  | .index t x i => match C.td t, evA tmps x, evA tmps i with
    | .one (.string _), .v (.string s), .v (.int _ n) => if 0 ≤ n ∧ n < s.size then some (.v (.int .u8 (s.data.getD n.toNat 0).toNat)) else none
    | _, _, _ => none
  | .convert src dst x => match C.td src, C.td dst, evA tmps x with
    | .one (.int _ _), .one (.int k _), .v (.int _ n) => some (.v (.int k (k.wrap n)))
    | .one (.string _), .one (.string _), .v (.string s) => some (.v (.string s))
    | _, _, _ => none
  | .call c => match c.callee with
    | .builtin .len => match c.args.toList, c.argTypes.toList with
      | [x], [t] => match C.td t, evA tmps x with
        | .sl _ _ _, y => match lenA y H with | some n => some (.v (.int .i64 n)) | none => none
        | .one (.string _), .v (.string s) => some (.v (.int .i64 s.size))
        | _, _ => none
      | _, _ => none
    | .builtin .min => match mmA false (c.args.toList.map (evA tmps)) with | some r => some r | none => pureOp P tmps o
    | .builtin .max => match mmA true (c.args.toList.map (evA tmps)) with | some r => some r | none => pureOp P tmps o
    | .value f => match callMA C (evA tmps f) (c.args.toList.map (evA tmps)) H with
      | some (r, Hr) => AV.val Hr r
      | none => none
    | _ => none
  | _ => none

def put (tmps : List AV) (d : Option Nat) (x : AV) : List AV := match d with | some i => tmps.set i x | none => tmps

/-- What is appended: its elements; whether they are by value. -/
def appArg (sz : Nat) (x : AV) (H : List Blk) : Option (List (List AV) × Bool) :=
  match x with
  | .lst s n _ get => if s = sz then some ((List.range n).map get, true) else none
  | .own id ver => match H[id]? with
    | some (.grow _ s ver' bv es) => if ver = ver' ∧ s = sz then some (es, bv) else none
    | _ => none
  | .v (.slice none 0 0) => some ([], true)
  | .z _ _ => some ([], true)
  | _ => none
def appendA (e sz bytes : Nat) (s x : AV) (H : List Blk) : Option (AV × List Blk) :=
  match appArg sz x H with
  | none => none
  | some (new, nbv) => match s with
    | .v (.slice none 0 0) => if new.length * bytes ≤ 140737488355328 ∧ new.length ≤ maxLen then some (.own H.length 0, H ++ [.grow e sz 0 nbv new]) else none
    | .z true _ => if new.length * bytes ≤ 140737488355328 ∧ new.length ≤ maxLen then some (.own H.length 0, H ++ [.grow e sz 0 nbv new]) else none
    | .z false _ => match decide (new.length = 0) with
      | true => some (.z false sz, H)
      | false => if new.length * bytes ≤ 140737488355328 ∧ new.length ≤ maxLen then some (.own H.length 0, H ++ [.grow e sz 0 nbv new]) else none
    | .own id ver => match H[id]? with
      | some (.grow e' s' ver' bv es) => if ver = ver' ∧ e = e' ∧ s' = sz ∧ (es.length + new.length) * bytes ≤ 140737488355328 ∧ es.length + new.length ≤ maxLen then
          some (.own id (ver + 1), H.set id (.grow e sz (ver + 1) (bv && nbv) (es ++ new))) else none
      | _ => none
    | _ => none

def AV.swap (id ver : Nat) (y : AV) : AV → AV
  | .own i r => if i = id ∧ r = ver then y else .own i r
  | x => x
def Blk.swap (id ver : Nat) (y : AV) : Blk → Blk
  | .var cs => .var (cs.map (AV.swap id ver y))
  | b => b
/-- Own lists within are let go of: from there on they never turn. -/
def frz (H : List Blk) : AV → AV × List Blk
  | .own id ver => match H[id]? with
    | some (.grow _ sz v true es) => if ver = v then (.lst sz es.length es.length (fun i => es.getD i []), (H.set id .dead).map (Blk.swap id ver (.lst sz es.length es.length (fun i => es.getD i [])))) else (.own id ver, H)
    | _ => (.own id ver, H)
  | .z _ sz => (.lst sz 0 0 (fun i => if i < 0 then [] else []), H)
  | x => (x, H)
def frzs : List AV → List Blk → List AV × List Blk
  | [], H => ([], H)
  | x :: r, H => ((frz H x).1 :: (frzs r (frz H x).2).1, (frzs r (frz H x).2).2)

/-- A list of its own is let go of, whoever holds it. -/
def frzK (k : Nat) (s : St) : St := match s.H[k]? with
  | some (.grow _ sz v true es) => ⟨s.tmps.map (AV.swap k v (.lst sz es.length es.length (fun i => es.getD i []))), (s.H.set k .dead).map (Blk.swap k v (.lst sz es.length es.length (fun i => es.getD i []))), s.base⟩
  | _ => s
def frzA : List Nat → St → St
  | [], s => s
  | k :: r, s => frzA r (frzK k s)
/-- Does one of a row call such a function? -/
def fzR (l : List Nat) (ops : List Oper) : Bool := ops.any fun o => match o.op with
  | .call c => match c.callee with
    | .value f => match evA [] f with
      | .fn n _ => l.any (Nat.beq n)
      | _ => false
    | _ => false
  | _ => false
/-- Ahead of a row that calls one of these functions all lists of its own that a call has are let go of. -/
def fzS (C : Ctx) (ops : Array Oper) (s : St) : St := match C.fz with
  | [] => s
  | a :: l => match fzR (a :: l) ops.toList with
    | true => frzA ((List.range s.H.length).drop s.base) s
    | false => s

/-- Bytes as numbers, and as a text. -/
def bytesA : List AV → Option (List Int)
  | [] => some []
  | .v (.int .u8 n) :: r => match bytesA r with | some ns => some (n :: ns) | none => none
  | _ => none
def bytesOf (ns : List Int) : ByteArray := ns.foldl (fun r n => r.push (UInt8.ofNat n.toNat)) ByteArray.empty
/-- A text of bytes. -/
def convA (s d e : TD) (x : AV) (H : List Blk) : Option AV :=
  match s, d, e with
  | .sl _ 1 _, .one (.string _), .one (.int .u8 _) => match appArg 1 x H with
    | some (new, _) => match bytesA new.flatten with
      | some ns => some (.v (.string (bytesOf ns)))
      | none => none
    | none => none
  | _, _, _ => none
def TD.elem : TD → Nat
  | .sl e _ _ => e
  | _ => 0
/-- A row of bytes that is marked as a text's: it never turns from there on. -/
def markA (s e : TD) (x : AV) (H : List Blk) : Option (AV × List Blk) :=
  match s, e, x with
  | .sl _ 1 _, .one (.int .u8 _), .own id ver => match H[id]? with
    | some (.grow _ 1 v true (c :: es)) => if ver = v then some (.lst 1 (c :: es).length (c :: es).length (fun i => (c :: es).getD i []), H.set id .dead) else none
    | _ => none
  | _, _, _ => none

/-- A nil slice that is stored tells the size of its elements. -/
def zsl : TD → AV → AV
  | .sl _ (k + 1) _, .v (.slice none 0 0) => .z true (k + 1)
  | _, y => y

/-- A nil list in a variable's cell is told as an own one without elements. -/
def own1 (H : List Blk) (k j e : Nat) : List Blk := match H[k]? with
  | some (.var cs) => match cs[j]? with
    | some (.z true (sz + 1)) => (H ++ [Blk.grow e (sz + 1) 0 true []]).set k (Blk.var (cs.set j (.own H.length 0)))
    | _ => H
  | _ => H
def ownPs (oz : Nat → List (Nat × Nat)) : Nat → List Blk → List (Nat × Nat × Nat)
  | _, [] => []
  | k, .var cs :: r => (oz cs.length).map (fun p => (k, p.1, p.2)) ++ ownPs oz (k + 1) r
  | k, _ :: r => ownPs oz (k + 1) r
/-- In variables of some sizes all nil lists are own ones from the first store on. -/
def ownB (oz : Nat → List (Nat × Nat)) (H : List Blk) : List Blk := (ownPs oz 0 H).foldl (fun H p => own1 H p.1 p.2.1 p.2.2) H
/-- Operations that write or make. -/
def evOpE (C : Ctx) (call : Nat → List AV → List Blk → Option (AV × List Blk)) (tmps : List AV) (H : List Blk) (o : Oper) : Option (AV × List Blk) :=
  match o.op with
  | .assign (.const (.slice none 0 0)) => match C.td o.type with
    | .sl e sz _ => some (.own H.length 0, H ++ [.grow e sz 0 true []])
    | _ => none
  | .slice t x lo hi mx => match zeroCut lo hi mx with
   | true => none
   | false => match maskA (cutIs C.cu lo mx) (evA tmps x) with
    | .own id ver => match AV.val H (.own id ver) with
      | some y => match sliceA (C.td t) y (lo.map (evA tmps)) (hi.map (evA tmps)) (mx.map (evA tmps)) with
        | some z => some (z, H.set id .dead)
        | none => none
      | none => none
    | _ => none
  | .convert src dst x => match convA (C.td src) (C.td dst) (C.td (C.td src).elem) (evA tmps x) H with
    | some y => some (y, H)
    | none => if src = dst then markA (C.td src) (C.td (C.td src).elem) (evA tmps x) H else none
  | .alloc t => match C.td t with
    | .sl e sz _ => some (.ptr (H.length + 1) 0, H ++ [.grow e sz 0 true [], .var [.own H.length 0]])
    | _ => match (C.td t).zero with
      | some zs => some (.ptr H.length 0, H ++ [.var (zAV (C.zz t) zs)])
      | none => none
  | .box _ x => if (evA tmps x).cells.all AV.atom then some (.ptr H.length 0, H ++ [.var (evA tmps x).cells]) else none
  | .store t x y => match storeA C t (evA tmps x) (zsl (C.td t) (evA tmps y)) H with | some H' => some (.any, ownB C.oz H') | none => none
  | .buildSlice t n parts => match C.td t with
    | .sl e sz _ => match (C.td e).zero with
      | some zs => if 0 < n * sz ∧ n * sz ≤ 16777216 then
          match afill (fun i => some (i * sz, sz)) (List.replicate n (zAV (C.zz e) zs)).flatten (parts.toList.map fun p => (p.1, evA tmps p.2)) with
          | some cs => some (.own (frzs cs H).2.length 0, (frzs cs H).2 ++ [.grow e sz 0 (AV.hbs 0 (frzs cs H).1) (chunks sz n (frzs cs H).1)])
          | none => none
        else if n = 0 ∧ parts.size = 0 then some (.own H.length 0, H ++ [.grow e sz 0 true []]) else none
      | none => none
    | _ => none
  | .call c => match c.callee with
    | .builtin .append => match c.args.toList, c.argTypes.toList with
      | [s, x], [t, t'] => if t = t' then match C.td t with
        | .sl e sz bytes => appendA e sz bytes (evA tmps s) (evA tmps x) H
        | _ => none else none
      | _, _ => none
    | .value f => match callMA C (evA tmps f) (c.args.toList.map (evA tmps)) H with
      | some (r, Hr) => match takeV r Hr with
        | some y => some (y, H)
        | none => some (r.shift H.length, H ++ Hr.map (Blk.shift H.length))
      | none => match evA tmps f with
        | .fn n caps => call n (c.args.toList.map (evA tmps) ++ caps) H
        | _ => none
    | _ => none
  | _ => none

/-- An operation. -/
def evOp (C : Ctx) (P : Program) (call : Nat → List AV → List Blk → Option (AV × List Blk)) (tmps : List AV) (H : List Blk) (o : Oper) : Option (AV × List Blk) :=
  match evOpE C call tmps H o with
  | some r => some r
  | none => match evOpQ C P tmps H o with
    | some x => some (x, H)
    | none => none

/-- Is it wanted? (An '&&' or '||' guards it.) -/
def wantA (ops : Array Oper) (tmps : List AV) (o : Oper) : Option Bool :=
  match o.guard with
  | none => some true
  | some (j, b) => match (ops[j]?).bind (·.dst) with
    | some d => match tmps.getD d .any with
      | .v (.bool t) => some (t == b)
      | .v (.tuple _) => some false
      | _ => none
    | none => none

def evOps (C : Ctx) (P : Program) (call : Nat → List AV → List Blk → Option (AV × List Blk)) (ops : Array Oper) : List Oper → St → Option St
  | [], s => some s
  | o :: r, s => match wantA ops s.tmps o with
    | some true => match evOp C P call s.tmps s.H o with
      | some (x, H) => evOps C P call ops r ⟨put s.tmps o.dst x, H, s.base⟩
      | none => none
    | some false => evOps C P call ops r ⟨put s.tmps o.dst (.v undef), s.H, s.base⟩
    | none => none

def Blk.hb (n : Nat) : Blk → Bool
  | .var cs => AV.hbs n cs
  | .grow _ _ _ bv es => bv || es.all (AV.hbs n)
  | .dead => true
mutual
/-- At a loop's head the versions of what this call made begin anew. -/
def AV.ren (base : Nat) (H : List Blk) : AV → AV
  | .own id ver => if id < base then .own id ver else match H[id]? with
    | some (.grow _ _ v1 _ _) => if ver = v1 then .own id 0 else .any
    | _ => .any
  | .gpt id ver i off => if id < base then .gpt id ver i off else match H[id]? with
    | some (.grow _ _ v1 _ _) => if ver = v1 then .gpt id 0 i off else .any
    | _ => .any
  | .agg cs => .agg (AV.rens base H cs)
  | .tup cs => .tup (AV.rens base H cs)
  | .fn f cs => .fn f (AV.rens base H cs)
  | .ifc t x => .ifc t (AV.ren base H x)
  | .any => .any
  | .v x => .v x
  | .lst sz n m get => .lst sz n m get
  | .ept cs => .ept cs
  | .z b sz => .z b sz
  | .ptr h off => .ptr h off
  | .cut id ver n => if id < base then .cut id ver n else match H[id]? with
    | some (.grow _ _ v1 _ _) => if ver = v1 then .cut id 0 n else .any
    | _ => .any
def AV.rens (base : Nat) (H : List Blk) : List AV → List AV
  | [] => []
  | x :: r => AV.ren base H x :: AV.rens base H r
end
def Blk.ren (base : Nat) (H : List Blk) (k : Nat) : Blk → Blk
  | .var cs => .var (AV.rens base H cs)
  | .grow e sz ver bv es => .grow e sz (if k < base then ver else 0) bv (if bv then es else es.map (AV.rens base H))
  | .dead => .dead
def renG (base : Nat) (H : List Blk) : Nat → List Blk → List Blk
  | _, [] => []
  | k, b :: r => b.ren base H k :: renG base H (k + 1) r
/-- At a loop's head: what the round made is let go. -/
def clean0 (n : Nat) (s : St) : St :=
  if (s.H.take n).all (Blk.hb n) then ⟨s.tmps.map fun x => if AV.hb n x then x.ren s.base (s.H.take n) else .any, renG s.base (s.H.take n) 0 (s.H.take n), s.base⟩ else s

def clean (n : Nat) (s : St) : St := clean0 (min n s.H.length) s

def resA (C : Ctx) (tmps : List AV) (H : List Blk) : List ResultVar → Option (List AV)
  | [] => some []
  | .tmp t :: r => match resA C tmps H r with | some xs => some (tmps.getD t .any :: xs) | none => none
  | .cell a t :: r => match loadA C t (tmps.getD a .any) H, resA C tmps H r with
    | some x, some xs => some (x :: xs)
    | _, _ => none

/-- A call of a function, by a way to run code. -/
def evFn (C : Ctx) (run : Code → St → Option (Ex × St)) (f : Nat) (args : List AV) (H : List Blk) : Option (AV × List Blk) :=
  match C.fn f with
  | none => none
  | some fn => match fn.body with
    | none => none
    | some c => match run c ⟨args ++ List.replicate (fn.ntmps - args.length) .any, H, H.length⟩ with
      | some (.norm, s) | some (.ret, s) => match resA C s.tmps s.H fn.results.toList with
        | some [x] => some (x, s.H)
        | some xs => some (.tup xs, s.H)
        | none => none
      | _ => none

/-- A row of quiet operations, one behind the other: what each yields, and the slots behind. -/
def evQs (C : Ctx) (P : Program) (H : List Blk) (ops : Array Oper) : List Oper → List AV → Option (List AV × List AV)
  | [], tmps => some ([], tmps)
  | o :: r, tmps => match wantA ops tmps o with
    | some true => match evOpQ C P tmps H o with
      | some x => match evQs C P H ops r (put tmps o.dst x) with
        | some (xs, t) => some (x :: xs, t)
        | none => none
      | none => none
    | some false => match evQs C P H ops r (put tmps o.dst (.v undef)) with
      | some (xs, t) => some (.v undef :: xs, t)
      | none => none
    | none => none

def opTmps (xs : List Operand) : List Nat := xs.filterMap fun | .tmp t => some t | _ => none
/-- What an operation reads: its operands' slots, and its guard's. -/
def reads (ops : List Oper) (o : Oper) : List Nat :=
  opTmps o.op.operands.toList ++ (match o.guard with | some (j, _) => (match ops[j]? with | some g => g.dst.toList | none => []) | none => [])
def afters (o : Oper) : List Nat := o.after.toList.filterMap fun e => if Region.binds .any e then some e.on else none
/-- May a row be taken in the text's order, whatever order is drawn? No slot is written twice; what one reads and another writes is ordered between them; edges lead back. -/
def drawOk (ops : List Oper) : Bool :=
  ops.zipIdx.all fun (o, i) => (o.after.toList.all fun e => decide (e.on < i)) && (match o.op with | .select .. => false | _ => true) &&
    ops.zipIdx.all fun (p, j) => i == j || (match p.dst with
      | none => true
      | some t => !(o.dst == some t) && (!(reads ops o).contains t || (if j < i then (afters o).contains j else (afters p).contains i)))
/-- Does the last one wait for all others? -/
def sinkR (ops : List Oper) : Nat → List Nat → Bool
  | 0, _ => true
  | i + 1, R => R.contains i && sinkR ops i (match ops[i]? with | some p => afters p ++ R | none => R)
/-- Is it quiet at all? -/
def quietOp (C : Ctx) (tmps : List AV) (o : Oper) : Bool := match o.op with
  | .alloc _ | .box .. | .store .. | .buildSlice .. => false
  | .call c => match c.callee with
    | .builtin .append => false
    | .value f => match evA tmps f with | .fn n _ => (C.m n).isSome | _ => true
    | _ => true
  | _ => true
/-- The first one that is not quiet. -/
def cutAt (C : Ctx) : List Oper → Nat
  | [] => 0
  | o :: r => match quietOp C [] o with
    | true => cutAt C r + 1
    | false => 0
/-- Does each from a place on wait for all ahead of it? -/
def sinkFrom (ops : List Oper) : Nat → List Oper → Bool
  | _, [] => true
  | i, o :: r => sinkR ops i (afters o) && sinkFrom ops (i + 1) r
def sinkOk (C : Ctx) (ops : List Oper) : Bool := sinkFrom ops (cutAt C ops) (ops.drop (cutAt C ops))

/-- May the row be taken as quiet ones, with a tail that waits? -/
def oldOk (C : Ctx) (ops : List Oper) : Bool := drawOk ops && ((ops.drop (cutAt C ops)).isEmpty || sinkOk C ops)

/-- Does it look at memory? -/
def memQ (o : Oper) : Bool := match o.op with
  | .move _ | .assign _ | .pick .. | .extract .. | .makeInterface .. | .makeFunc .. | .binOp .. | .unOp .. | .build .. | .field .. => false
  | _ => true
/-- All that one waits for. -/
def clo (ops : List Oper) : Nat → List Nat → List Nat
  | 0, R => R
  | j + 1, R => clo ops j (if R.contains j then (match ops[j]? with | some p => afters p ++ R | none => R) else R)
/-- The first loud one, if it makes a new variable: others need not wait for it. -/
def floatA (C : Ctx) (ops : List Oper) : Option Nat := match ops[cutAt C ops]? with
  | some o => match o.op, o.guard with
    | .alloc _, none => some (cutAt C ops)
    | _, _ => none
  | none => none
def floatB (C : Ctx) (ops : List Oper) : Option Nat := match ops[cutAt C ops]? with
  | some o => match o.op, o.guard with
    | .buildSlice _ _ _, none => some (cutAt C ops)
    | _, _ => none
  | none => none
/-- Must one wait for one ahead of it? -/
def mustWait (C : Ctx) (f : Option Nat) (o : Oper) (i : Nat) (p : Oper) (j : Nat) : Bool :=
  match quietOp C [] o with
  | false => !quietOp C [] p || (memQ p && !(f == some i))
  | true => memQ o && !quietOp C [] p && !(f == some j)
/-- A load of what was there ahead of the row: it may come late, if what it loads is a place, and always the same. -/
def ldQ (ops : List Oper) (o : Oper) : Bool := (match o.op, o.guard with | .load .., none => true | _, _ => false) && (reads ops o).all fun t => ops.all fun p => !(p.dst == some t)
def pairOk (C : Ctx) (f : Option Nat) (ops : List Oper) (o : Oper) (i : Nat) (p : Oper) (j : Nat) : Bool :=
  !decide (j < i) || !mustWait C f o i p j || (clo ops i (afters o)).contains j || (match quietOp C [] o with | true => ldQ ops o | false => quietOp C [] p && ldQ ops p)
/-- The first loud one, if it makes a new variable, or a new list where that is wanted: others need not wait for it. -/
def floatAt (C : Ctx) (ops : List Oper) : Option Nat := match floatA C ops with
  | some f => some f
  | none => match ops.zipIdx.all fun (o, i) => ops.zipIdx.all fun (p, j) => pairOk C none ops o i p j with
    | true => none
    | false => floatB C ops
def notOwn : AV → Bool
  | .own _ _ => false
  | .cut _ _ _ => false
  | _ => true
/-- A list that floats holds no own list. -/
def flOk (tmps : List AV) (o : Oper) : Bool := match o.op with
  | .buildSlice _ _ parts => parts.toList.all fun p => (evA tmps p.2).cells.all notOwn
  | _ => true
def okF (C : Ctx) (ops : Array Oper) (k : Nat) (o : Oper) (tmps : List AV) : Bool := !(floatAt C ops.toList == some k) || flOk tmps o
/-- Does one float that others do not wait for? -/
def needs (C : Ctx) (ops : List Oper) (i : Nat) (o : Oper) : Bool :=
  ops.zipIdx.any fun (p, j) => (decide (j < i) && (mustWait C (floatAt C ops) o i p j && !(clo ops i (afters o)).contains j)) || (decide (i < j) && (mustWait C (floatAt C ops) p j o i && !(clo ops j (afters p)).contains i))
/-- May a row be taken in the text's order, whatever order is drawn, though it writes? -/
def newOk (C : Ctx) (ops : List Oper) : Bool :=
  ops.zipIdx.all fun (o, i) => (afters o).all (fun k => decide (k < i)) && (match o.op with | .select .. => false | _ => true) &&
    (ops.zipIdx.all fun (p, j) => i == j || (match p.dst with
      | none => true
      | some t => !(o.dst == some t) && (!(reads ops o).contains t || (if j < i then (afters o).contains j else (afters p).contains i)))) &&
    ops.zipIdx.all fun (p, j) => !decide (j < i) || !mustWait C (floatAt C ops) o i p j || (clo ops i (afters o)).contains j || (match quietOp C [] o with | true => ldQ ops o | false => quietOp C [] p && ldQ ops p)
/-- Slots, memory, and memory without the new variable. -/
structure Ds where
  tmps : List AV
  H : List Blk
  pre : Option (List Blk)
def Ds.q (d : Ds) (w : Bool) : List Blk := match d.pre, w with
  | some H0, false => H0
  | _, _ => d.H
def stD (C : Ctx) (P : Program) (call : Nat → List AV → List Blk → Option (AV × List Blk)) (ops : Array Oper) (f : Option Nat) (w : Bool) (k : Nat) (o : Oper) (d : Ds) : Option (AV × Ds) :=
  match wantA ops d.tmps o with
  | some true => match quietOp C [] o with
    | true => match evOpQ C P d.tmps (d.q w) o with
      | some x => some (x, ⟨put d.tmps o.dst x, d.H, d.pre⟩)
      | none => none
    | false => match evOp C P call d.tmps d.H o with
      | some (x, H') => some (x, ⟨put d.tmps o.dst x, H', if f == some k then some d.H else none⟩)
      | none => none
  | some false => some (.v undef, ⟨put d.tmps o.dst (.v undef), d.H, if quietOp C [] o then d.pre else none⟩)
  | none => none
/-- Does it wait for the new variable? -/
def waitsF (C : Ctx) (ops : List Oper) (k : Nat) (o : Oper) : Bool := match floatAt C ops with
  | some f => (clo ops k (afters o)).contains f
  | none => false
/-- The same place still? -/
def sameLd (C : Ctx) (P : Program) (T : List AV) (H0 H : List Blk) (o : Oper) : Bool := match evOpQ C P T H0 o, evOpQ C P T H o with
  | some (.ptr a b), some (.ptr a' b') => Nat.beq a a' && Nat.beq b b'
  | _, _ => false
def ckOf (C : Ctx) (P : Program) (ops : List Oper) (T : List AV) (H0 H : List Blk) : Bool := ops.zipIdx.all fun (o, i) => !(quietOp C [] o && needs C ops i o) || sameLd C P T H0 H o
def evD (C : Ctx) (P : Program) (call : Nat → List AV → List Blk → Option (AV × List Blk)) (ops : Array Oper) (ck : List Blk → Bool) : Nat → List Oper → Ds → Option Ds
  | _, [], d => some d
  | k, o :: r, d => match stD C P call ops (floatAt C ops.toList) (waitsF C ops.toList k o) k o d with
    | some (_, d') => match ck d'.H && okF C ops k o d.tmps with
      | true => evD C P call ops ck (k + 1) r d'
      | false => none
    | none => none

/-- A new variable, made in any case. -/
def mkOp (C : Ctx) (o : Oper) : Bool := match o.op, o.guard with
  | .alloc t, none => (match C.td t with | .sl .. => false | _ => true)
  | .box _ _, none => true
  | _, _ => false
/-- Two new variables side by side behind quiet operations, and a tail that waits for all. -/
def twoOk (C : Ctx) (ops : List Oper) : Bool :=
  drawOk ops && (match ops.drop (cutAt C ops) with
    | o1 :: o2 :: r => mkOp C o1 && (mkOp C o2 && ((match o2.dst with | some t => !(reads ops o1).contains t | none => true) && ((match o1.dst with | some t => !(reads ops o2).contains t | none => true) && sinkFrom ops (cutAt C ops + 2) r)))
    | _ => false)
def hbAt (n : Nat) (t : List AV) : List Oper → Bool
  | [] => true
  | o :: r => (match o.dst with | some d => AV.hb n (t.getD d .any) | none => true) && hbAt n t r

def evDraw (C : Ctx) (P : Program) (call : Nat → List AV → List Blk → Option (AV × List Blk)) (ops : Array Oper) (s : St) : Option St :=
  match oldOk C ops.toList with
  | true => match evQs C P s.H ops ops.toList s.tmps with
    | some (_, t) => some ⟨t, s.H, s.base⟩
    | none => match evQs C P s.H ops (ops.toList.take (cutAt C ops.toList)) s.tmps with
      | some (_, t) => evOps C P call ops (ops.toList.drop (cutAt C ops.toList)) ⟨t, s.H, s.base⟩
      | none => none
  | false => match newOk C ops.toList with
    | true => match ckOf C P ops.toList s.tmps s.H s.H with
      | true => match evD C P call ops (ckOf C P ops.toList s.tmps s.H) 0 ops.toList ⟨s.tmps, s.H, none⟩ with
        | some d => some ⟨d.tmps, d.H, s.base⟩
        | none => none
      | false => none
    | false => match twoOk C ops.toList with
      | true => match evQs C P s.H ops (ops.toList.take (cutAt C ops.toList)) s.tmps with
        | some (_, t) => match hbAt s.H.length t (ops.toList.take (cutAt C ops.toList)) with
          | true => evOps C P call ops (ops.toList.drop (cutAt C ops.toList)) ⟨t, s.H, s.base⟩
          | false => none
        | none => none
      | false => none

def fills : Code → List Nat
  | .region _ ops _ => ops.toList.filterMap fun o => match o.op with | .assign _ => none | _ => o.dst
  | .seq a b => fills a ++ fills b
  | .cond _ x y => fills x ++ fills y
  | .block _ c => fills c
  | .loop c => fills c
  | .scope c => fills c
  | _ => []
/-- What is written so far, and what was read ahead of that. -/
def scanOps : List Oper → List Nat → List Nat → List Nat × List Nat
  | [], w, x => (w, x)
  | o :: r, w, x => scanOps r (o.dst.toList ++ w) ((opTmps o.op.operands.toList).filter (fun t => !w.contains t) ++ x)
def scan : Code → List Nat → List Nat → List Nat × List Nat
  | .region _ ops _, w, x => scanOps ops.toList w x
  | .seq a b, w, x => match scan a w x with | (w, x) => scan b w x
  | .cond c a b, w, x => match scan a w ((opTmps [c]).filter (fun t => !w.contains t) ++ x) with | (w, x) => scan b w x
  | .block _ c, w, x => scan c w x
  | .loop c, w, x => scan c w x
  | .scope c, w, x => scan c w x
  | _, w, x => (w, x)
/-- Slots that an expression within a round fills: none is read behind the round. -/
def kills (c : Code) : List Nat := match scan c [] [] with | (_, x) => (fills c).filter fun t => !x.contains t
def wipeT : List Nat → List AV → List AV
  | [], t => t
  | k :: ks, t => wipeT ks (t.set k .any)
def eqNs : List Nat → List Nat → Bool
  | [], [] => true
  | a :: r, b :: s => match Nat.beq a b with | true => eqNs r s | false => false
  | _, _ => false
/-- What is told of a loop: the slots that nothing looks at any more at its head, and behind it. -/
def klFind : List (List Nat × List Nat × List Nat) → List Nat → Option (List Nat × List Nat)
  | [], _ => none
  | (k, v) :: r, x => match eqNs k x with | true => some v | false => klFind r x
def killsH (kl : List (List Nat × List Nat × List Nat)) (c : Code) : List Nat := match klFind kl (fills c) with | some (h, _) => h | none => kills c
def killsX (kl : List (List Nat × List Nat × List Nat)) (c : Code) : List Nat := match klFind kl (fills c) with | some (_, x) => x | none => kills c
def wipe (kl : List (List Nat × List Nat × List Nat)) (c : Code) (s : St) : St := ⟨wipeT (killsH kl c) s.tmps, s.H, s.base⟩

/-- What a round made is let go where nothing holds it. -/
def cut0 (n : Nat) (s : St) : St := if s.tmps.all (AV.hb n) && (s.H.take n).all (Blk.hb n) then ⟨s.tmps, s.H.take n, s.base⟩ else s
def leave (kl : List (List Nat × List Nat × List Nat)) (c : Code) (n : Nat) (s : St) : St := cut0 (min n s.H.length) ⟨wipeT (killsX kl c) s.tmps, s.H, s.base⟩
/-- At a loop's head. -/
def head (kl : List (List Nat × List Nat × List Nat)) (c : Code) (s : St) : St := wipe kl c (clean s.H.length s)

/-- How much of the memory stays at a round's end: all of it, where a slot that is looked at again holds a new place. -/
def keepN (kl : List (List Nat × List Nat × List Nat)) (c : Code) (n : Nat) (s : St) : Nat := match (wipeT (killsH kl c) s.tmps).any (fun x => match x with | .ptr k _ => Nat.ble n k | _ => false) with | true => s.H.length | false => n
/-- What a round is handed, laid into the slots. -/
def setPs : List AV → List Nat → List AV → List AV
  | t, p :: ps, x :: xs => setPs (t.set p x) ps xs
  | t, _, _ => t
/-- The rounds of a loop over a function: what it hands out is a row. A round's slots are let go. -/
def evRows (run : Code → St → Option (Ex × St)) (ps : List Nat) (asg body : Code) : List (List AV) → St → Option (Ex × St)
  | [], s => some (.norm, s)
  | row :: r, s => match run asg ⟨setPs s.tmps ps row, s.H, s.H.length⟩ with
    | some (.norm, s1) => match run body s1 with
      | some (.norm, s2) => evRows run ps asg body r (clean s.H.length ⟨s.tmps, s2.H, s.base⟩)
      | some (e, s2) => some (e, clean s.H.length ⟨s.tmps, s2.H, s.base⟩)
      | none => none
    | _ => none
/-- What a function hands out. -/
def rowsA (C : Ctx) (x : AV) (n : Nat) : Option (List (List AV)) := match x with
  | .fn f caps => match C.sq f with
    | some q => match AV.hbs 0 caps with
      | true => match q caps with
        | some rows => if rows.all (fun r => Nat.beq r.length n) then some rows else none
        | none => none
      | false => none
    | none => none
  | _ => none
def evCode (C : Ctx) (P : Program) : Nat → Code → St → Option (Ex × St)
  | 0, _, _ => none
  | n + 1, .skip, s => some (.norm, s)
  | n + 1, .label _, s => some (.norm, s)
  | n + 1, .region _ ops false, s => match evOps C P (evFn C (evCode C P n)) ops ops.toList (fzS C ops s) with
    | some s' => some (.norm, s')
    | none => none
  | n + 1, .region _ ops true, s => match evDraw C P (evFn C (evCode C P n)) ops (fzS C ops s) with
    | some s' => some (.norm, s')
    | none => none
  | n + 1, .seq a b, s => match evCode C P n a s with
    | some (.norm, s') => evCode C P n b s'
    | r => r
  | n + 1, .cond c x y, s => match evA s.tmps c with
    | .v (.bool t) => if t then evCode C P n x s else evCode C P n y s
    | _ => none
  | n + 1, .block id c, s => match evCode C P n c s with
    | some (.exit i, s') => if i = id then some (.norm, s') else some (.exit i, s')
    | r => r
  | n + 1, .loop c, s => match evCode C P n c (head C.kl c s) with
    | some (.norm, s') => evCode C P n (.loop c) (clean (keepN C.kl c s.H.length s') s')
    | some (.exit i, s') => some (.exit i, leave C.kl c s.H.length s')
    | some (.ret, s') => some (.ret, leave C.kl c s.H.length s')
    | none => none
  | n + 1, .exit id, s => some (.exit id, s)
  | n + 1, .ret, s => some (.ret, s)
  | n + 1, .scope c, s => evCode C P n c s
  | n + 1, .rangeFunc g ps asg body, s => match rowsA C (evA s.tmps g) ps.size with
    | some rows => evRows (evCode C P n) ps.toList asg body rows (clean s.H.length s)
    | none => none
  | n + 1, _, _ => none
end Go.Proofs.Ytkifbcjmmkbilaa.Av
