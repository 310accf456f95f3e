/- A slice of one element of many cells is built: the element's cells are whatever. -/
import Derived.WalkKit
import Derived.Laws.Rows
import Derived.Laws.Tables
import Derived.Laws.CopyOwn
import Derived.Deep.MidRow
import Derived.Deep.WholeRow
import Derived.Below
set_option linter.unusedVariables false
set_option linter.unusedSimpArgs false
namespace Go.Proofs.YtalkodandfjkmaaDoor.Mid
open Go.RowKit
variable {P : Program}

theorem foldl_set (v : List Value) : ∀ (o : Nat) (z : Array Value), o + v.length ≤ z.size →
    ((v.zipIdx o).foldl (fun cs (x : Value × Nat) => cs.setIfInBounds x.2 x.1) z).toList = z.toList.take o ++ v ++ z.toList.drop (o + v.length) := by
  induction v with
  | nil => intro o z h; simp
  | cons c v ih =>
    intro o z h
    simp only [List.length_cons] at h
    rw [List.zipIdx_cons, List.foldl_cons, ih (o + 1) _ (by simp; omega)]
    simp only [Array.toList_setIfInBounds, List.length_cons]
    have hlen : o < z.toList.length := by simp; omega
    rw [List.take_succ_eq_append_getElem (by simp; omega), List.take_set_of_le (by omega)]
    simp only [List.getElem_set_self, List.append_assoc, List.singleton_append]
    rw [List.drop_set_of_lt (by omega), show o + 1 + v.length = o + (v.length + 1) by omega]
theorem fill_one (v : Value) (z : Array Value) (sz : Nat) (hz : z.size = sz) (hv : v.cells.size = sz) :
    Instr.fill (fun i => some (i * sz, sz)) z [(0, v)] = some v.cells := by
  have h0 : v.cells.size ≤ z.size := by omega
  simp only [Instr.fill, Nat.zero_mul, Nat.zero_add]
  rw [if_neg (by simp; omega)]
  congr 1
  have h := foldl_set v.cells.toList 0 z (by simp; omega)
  apply Array.ext'
  rw [← Array.foldl_toList, Array.toList_zipIdx]
  rw [h]
  simp
  omega
theorem run_buildSlice_one (w : World) (t e : TypeId) (v z : Value) (sz bytes : Nat) (ht : P.underlying t = some (.slice e)) (hi : (P.info? e).map (fun i => (i.zero, i.size, i.bytes)) = some (some z, sz, bytes)) (hz : z.cells.size = sz) (hv : v.cells.size = sz) (h0 : 0 < sz) (h2 : sz ≤ 16777216) :
    (Instr.buildSlice t 1 #[(0, v)]).run P w = .ok (.slice (some ⟨w.heap.size, 0, none⟩) 1 1) (w.alloc (.cells v.cells e)) := by
  obtain ⟨i, hi1, hi2⟩ := Option.map_eq_some_iff.1 hi
  simp only [Prod.mk.injEq] at hi2
  obtain ⟨e1, e2, e3⟩ := hi2
  have hs : (sizeOf e).run P w = .ok sz w := by simp [sizeOf, typeInfo, hi1, e2]
  have hzv : (zeroValue e).run P w = .ok z w := by simp [zeroValue, typeInfo, hi1, e1]
  have hf := fill_one v ((Array.range (1 * sz)).map (z.cells[· % z.cells.size]!)) sz (by simp) hv
  unfold Instr.buildSlice
  simp only [Sem.run_bind, run_underlying ht, hs, Result.andThen]
  rw [if_neg (by omega), if_neg (by omega)]
  simp only [Sem.run_bind, Sem.run_pure, hzv, Result.andThen, List.toList_toArray]
  rw [hf]
  simp [newRow, go_sem]
theorem wpList_buildSlice_one {ops : Array Oper} {rest : List Oper} {o : Oper} {a : Act} {w : World} {Q : Exit → Act → World → Prop} (hgd : o.guard = none) (t e : TypeId) (x : Operand) (ho : o.op = .buildSlice t 1 #[(0, x)])
    (v z : Value) (sz bytes : Nat) (ht : P.underlying t = some (.slice e)) (hi : (P.info? e).map (fun i => (i.zero, i.size, i.bytes)) = some (some z, sz, bytes)) (hx : a.eval x = v) (hz : z.cells.size = sz) (hv : v.cells.size = sz) (h0 : 0 < sz) (h2 : sz ≤ 16777216)
    (h : wpList P ops Q rest (a.put o.dst (.slice (some ⟨w.heap.size, 0, none⟩) 1 1)) (w.alloc (.cells v.cells e))) : wpList P ops Q (o :: rest) a w := by
  refine wpList_plain hgd fun K hK => ?_
  unfold Oper.wp execOp
  have hr := run_buildSlice_one (P := P) w t e v z sz bytes ht hi hz hv h0 h2
  simp only [ho, List.map_toArray, List.map_cons, List.map_nil, hx, hr, Sem.run_bind, Result.andThen]
  exact hK _ _ h
theorem heap2 (w : World) (A B : Obj) : ((w.alloc A).alloc B).heap[w.heap.size]? = some A ∧ ((w.alloc A).alloc B).heap[w.heap.size + 1]? = some B ∧ Below w.heap.size w ((w.alloc A).alloc B) := by
  refine ⟨?_, ?_, (((Below.refl _ _).alloc (Nat.le_refl _) _).alloc (by simp) _)⟩
  · rw [heap_alloc_old _ _ (by simp), heap_alloc_new]
  · have h := heap_alloc_new (w.alloc A) B
    rw [World.size_alloc] at h
    exact h
theorem heap3 (w : World) (A B C : Obj) : (((w.alloc A).alloc B).alloc C).heap[w.heap.size]? = some A ∧ (((w.alloc A).alloc B).alloc C).heap[w.heap.size + 1]? = some B ∧ (((w.alloc A).alloc B).alloc C).heap[w.heap.size + 1 + 1]? = some C ∧ Below w.heap.size w (((w.alloc A).alloc B).alloc C) := by
  obtain ⟨h1, h2, h3⟩ := heap2 w A B
  refine ⟨?_, ?_, ?_, h3.alloc h3.size _⟩
  · rw [heap_alloc_old _ _ (by simp; omega), h1]
  · rw [heap_alloc_old _ _ (by simp), h2]
  · have h := heap_alloc_new ((w.alloc A).alloc B) C
    rw [World.size_alloc, World.size_alloc] at h
    exact h
theorem setRow2 (w : World) (A : Obj) (c c' : Array Value) (t : TypeId) : ((w.alloc A).alloc (.cells c t)).setRow (w.heap.size + 1) c' = (w.alloc A).alloc (.cells c' t) := by
  have h := World.setRow_alloc_new (w.alloc A) c c' t
  rwa [World.size_alloc] at h
theorem setRow3 (w : World) (A B : Obj) (c c' : Array Value) (t : TypeId) : (((w.alloc A).alloc B).alloc (.cells c t)).setRow (w.heap.size + 1 + 1) c' = ((w.alloc A).alloc B).alloc (.cells c' t) := by
  have h := World.setRow_alloc_new ((w.alloc A).alloc B) c c' t
  rwa [World.size_alloc, World.size_alloc] at h
end Go.Proofs.YtalkodandfjkmaaDoor.Mid
