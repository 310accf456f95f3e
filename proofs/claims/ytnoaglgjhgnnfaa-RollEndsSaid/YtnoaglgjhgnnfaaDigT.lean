/- Package digest: a number, a text, a template, taken by a cell that holds a digest. -/
import Derived.Test.YtnoaglgjhgnnfaaDig
import Derived.Lib.ConvBytes
namespace Go.Proofs.Ytnoaglgjhgnnfaa.Dig
open Go.RowKit Go.Proofs.YtnoaglgjhgnnfaaW.PrintWords

/-- Behind a call that writes one cell and makes memory. -/
def Put (w w' : World) (b o : Nat) (v : Value) : Prop := Below w.heap.size (w.setCell ⟨b, o, none⟩ v) w'
theorem setCell_size (w : World) (p : Addr) (v : Value) : (w.setCell p v).heap.size = w.heap.size := by simp [World.setCell]
theorem below_set_both {B : Nat} {a c : World} (h : Below B a c) (p : Addr) (v : Value) : Below B (a.setCell p v) (c.setCell p v) := by
  refine ⟨h.os, h.tape, h.output, by rw [setCell_size, setCell_size]; exact h.size, fun k hk => ?_⟩
  simp only [World.setCell, Array.getElem?_modify]
  rw [h.block k hk]
theorem Put.start {w : World} {b o : Nat} {v : Value} (hp : w.cell? ⟨b, o, none⟩ = some v) : Put w w b o v := by
  unfold Put
  rw [setCell_same hp]
  exact Below.refl _ _
theorem Put.size {w w1 : World} {b o : Nat} {v : Value} (h : Put w w1 b o v) : w.heap.size ≤ w1.heap.size := by
  have h2 := Below.size h
  rw [setCell_size] at h2
  exact h2
theorem Put.step {w w1 w2 : World} {b o : Nat} {v1 v2 : Value} (h1 : Put w w1 b o v1) (h2 : Put w1 w2 b o v2) : Put w w2 b o v2 := by
  have h := below_set_both h1 ⟨b, o, none⟩ v2
  rw [setCell_twice] at h
  exact h.trans (h2.mono h1.size)
theorem Put.alloc {w w1 : World} {b o : Nat} {v : Value} (h : Put w w1 b o v) (ob : Obj) : Put w (w1.alloc ob) b o v := Below.alloc h h.size ob
theorem Put.below {w w1 w2 : World} {b o : Nat} {v : Value} (h : Put w w1 b o v) (h2 : Below w1.heap.size w1 w2) : Put w w2 b o v := Below.trans h (h2.mono h.size)
theorem Put.cell {w w1 : World} {b o : Nat} {v x : Value} (h : Put w w1 b o v) (hp : w.cell? ⟨b, o, none⟩ = some x) : w1.cell? ⟨b, o, none⟩ = some v := by
  rw [Below.cell (p := ⟨b, o, none⟩) h (World.block_lt_of_cell? w _ hp)]
  exact World.cell?_setCell_same w _ _ hp
theorem Put.frozen {w w1 : World} {b o : Nat} {v x : Value} (h : Put w w1 b o v) (hp : w.cell? ⟨b, o, none⟩ = some x) (q : Nat) : w1.frozen? ⟨b, q, none⟩ = w.frozen? ⟨b, q, none⟩ := by
  rw [Below.frozen (p := ⟨b, q, none⟩) h (show b < _ from World.block_lt_of_cell? w ⟨b, o, none⟩ hp)]
  simp
theorem Put.other {w w1 : World} {b o : Nat} {v : Value} (h : Put w w1 b o v) {q : Addr} (hq : q.block < w.heap.size) (hne : q.block ≠ b) : w1.cell? q = w.cell? q := by
  rw [Below.cell (p := q) h hq]
  exact World.cell?_setCell_other w _ _ _ (fun e => hne (by rw [← e]))

theorem Put.since {w W w1 : World} {b o : Nat} {v : Value} (h : Put W w1 b o v) (hW : Below w.heap.size w W) (hb : w.heap.size ≤ b) : Below w.heap.size w w1 := (hW.setCell (p := ⟨b, o, none⟩) hb v).trans (Below.mono h hW.size)
/-- The first k bytes of a number, the low one first. -/
def numB (v : Int) : Nat → List Int
  | 0 => []
  | k + 1 => numB v k ++ [v / 256 ^ k % 256]
theorem fnv_one (h : Int) (l : List Int) (c : Int) : fnvL (fnvL h l) [c] = fnvL h (l ++ [c]) := (fnv_append h l [c]).symm
theorem div_256 (v : Int) (k : Nat) : v / 256 ^ k / 256 = v / 256 ^ (k + 1) := by
  rw [Int.pow_succ, Int.ediv_ediv_of_nonneg (by exact Int.pow_nonneg (by omega))]
set_option maxHeartbeats 1000000 in
theorem number_calls (b o : Nat) (n h0 : Int) (w : World) (hp : w.cell? ⟨b, o, none⟩ = some (.int .u64 h0)) (hfz : w.frozen? ⟨b, o, none⟩ = false) :
    Calls Try.prog 108 #[.pointer (some ⟨b, o, none⟩), .int .i64 n] w fun e w' => e = .returned (.tuple #[]) ∧ Put w w' b o (.int .u64 (fnvL h0 (numB (IntKind.u64.wrap n) 8))) := by
  have HP := Lib.hid hp
  have HZ := Lib.hid hfz
  have hb := World.block_lt_of_cell? w _ hp
  clear hp hfz
  have hb' : b < w.heap.size := hb
  clear hb
  generalize hv : IntKind.u64.wrap n = v
  have HV := Lib.hid hv
  go_enter Try.func108, Try.ntmps108
  go_wp2
  clear hv
  go_loopw [4, 7] (fun x i wr => ∃ k : Nat, k ≤ 8 ∧ i = .int .i64 k ∧ x = .int .u64 (v / 256 ^ k) ∧ Put w wr b o (.int .u64 (fnvL h0 (numB v k)))) (fun _ i _ => 8 - (intOf i).toNat)
  case atStart => exact ⟨0, by omega, rfl, by simp, Put.start HP.out⟩
  case round =>
    obtain ⟨k, hk, rfl, rfl, hput⟩ := hrel
    have HPU := Lib.hid hput
    have hsz := hput.size
    clear hput
    by_cases hlt : k < 8
    · go_wp2_with fail
      refine (bytes_calls b o _ _ [v / 256 ^ k % 256] (fnvL h0 (numB v k)) _ ?_ ?_ ?_ (by simp) ?_).mono ?_
      · rw [World.cell?_alloc_lt]
        · exact HPU.out.cell HP.out
        · show b < _; omega
      · rw [World.frozen?_alloc_old _ _ _ (by show b ≠ _; omega)]
        rw [HPU.out.frozen HP.out]; exact HZ.out
      · exact C_new .u8 wr [v / 256 ^ k % 256] 5 (0, 0) (by simp)
      · intro ad e _
        obtain rfl := Option.some.inj e
        show wr.heap.size ≠ b
        omega
      rintro e w' ⟨rfl, rfl⟩
      have hd := div_256 v k
      go_wp2
      go_roundw
      case rel =>
        refine ⟨k + 1, by omega, by go_num, rfl, ?_⟩
        have h1 := (HPU.out.alloc (.cells #[.int .u8 (v / 256 ^ k % 256)] 5)).step (Below.refl _ _ : Put _ _ b o (.int .u64 (fnvL (fnvL h0 (numB v k)) [v / 256 ^ k % 256])))
        rw [show numB v (k + 1) = numB v k ++ [v / 256 ^ k % 256] from rfl, ← fnv_one]
        exact h1
      case measure => simp [intOf]; omega
    · obtain rfl : k = 8 := by omega
      go_wp2
      go_end0
      exact ⟨rfl, HPU.out⟩

/-- What a template's fields are: a number, a text. -/
inductive It where
  | num (n : Int)
  | text (s : ByteArray)
def It.enc : It → Value
  | .num n => .iface 3 (.int .i64 n)
  | .text s => .iface 9 (.string s)
def strB (s : ByteArray) : List Int := s.data.toList.map fun c => (c.toNat : Int)
def It.bytes : It → List Int
  | .num n => numB (IntKind.u64.wrap n) 8
  | .text s => numB (IntKind.u64.wrap s.size) 8 ++ strB s
def itsB (l : List It) : List Int := l.flatMap It.bytes
theorem strB_len (s : ByteArray) : (strB s).length = s.size := by
  unfold strB
  rw [List.length_map, Array.length_toList]
  rfl
theorem itsB_snoc (l : List It) (k : Nat) (it : It) (h : l[k]? = some it) : itsB (l.take (k + 1)) = itsB (l.take k) ++ it.bytes := by
  obtain ⟨hk, e⟩ := List.getElem?_eq_some_iff.1 h
  rw [List.take_succ_eq_append_getElem hk, e]
  simp [itsB]
theorem C_bytes (w : World) (e : TypeId) (s : ByteArray) (hs : s.size ≤ 9223372036854775807) : Kd.C (Kd.int .u8) (Lib.bytesWorld w e s) (some ⟨w.heap.size, 0, none⟩) (strB s).length (strB s) := by
  refine ⟨rfl, by rw [strB_len]; exact hs, fun _ => ⟨_, rfl, fun j p hj => ⟨[.int .u8 p], rfl, rfl, fun i u hi => ?_⟩⟩⟩
  have hz : (Kd.int .u8).sz = 1 := rfl
  have hjl : j < s.size := by have := (List.getElem?_eq_some_iff.1 hj).1; rw [strB_len] at this; exact this
  cases i with
  | succ i => simp at hi
  | zero =>
    simp only [List.getElem?_cons_zero, Option.some.injEq] at hi
    subst hi
    rw [hz, Nat.mul_one, Nat.add_zero]
    have e1 : (⟨w.heap.size, 0, none⟩ : Addr).add j = ⟨w.heap.size, j, none⟩ := by
      unfold Addr.add
      split
      · rename_i h; rw [h]
      · simp
    rw [e1, Lib.bytesWorld_cell w e s j hjl]
    congr 2
    unfold strB at hj
    rw [List.getElem?_map] at hj
    obtain ⟨c, hc, hcp⟩ := Option.map_eq_some_iff.1 hj
    rw [List.getD_eq_getElem?_getD, hc]
    exact hcp
theorem bytesWorld_below (w : World) (e : TypeId) (s : ByteArray) : Below w.heap.size w (Lib.bytesWorld w e s) := by
  refine ⟨?_, ?_, ?_, by rw [Lib.bytesWorld_size]; omega, fun k hk => Lib.bytesWorld_at_old w e s k hk⟩
  all_goals (unfold Lib.bytesWorld World.freeze; split <;> rfl)
theorem ta_int (v : Value) (w : World) : (Instr.typeAssert (.iface 3 v) 20 3 true).run Try.prog w = .ok (.tuple #[v, .bool true]) w := by kernel_rfl
theorem ta_str_int (v : Value) (w : World) : (Instr.typeAssert (.iface 9 v) 20 3 true).run Try.prog w = .ok (.tuple #[.int .i64 0, .bool false]) w := by kernel_rfl
theorem ta_str (v : Value) (w : World) : (Instr.typeAssert (.iface 9 v) 20 9 true).run Try.prog w = .ok (.tuple #[v, .bool true]) w := by kernel_rfl
set_option maxRecDepth 100000 in
set_option maxHeartbeats 1000000 in
theorem fields_calls (b o g c : Nat) (its : List It) (h0 : Int) (w : World) (hp : w.cell? ⟨b, o, none⟩ = some (.int .u64 h0)) (hfz : w.frozen? ⟨b, o, none⟩ = false)
    (hrow : ∀ (j : Nat) it, its[j]? = some it → w.cell? ⟨g, j, none⟩ = some it.enc) (hg : g < w.heap.size) (hgb : g ≠ b) (hl : its.length ≤ 9223372036854775807) (hs : ∀ s, It.text s ∈ its → s.size ≤ 140737488351232) :
    Calls Try.prog 85 #[.pointer (some ⟨b, o, none⟩), .slice (some ⟨g, 0, none⟩) its.length c] w fun e w' => e = .returned (.tuple #[]) ∧ Put w w' b o (.int .u64 (fnvL h0 (itsB its))) := by
  have HP := Lib.hid hp
  have HZ := Lib.hid hfz
  have HR := Lib.hid hrow
  have HS := Lib.hid hs
  have hb := World.block_lt_of_cell? w _ hp
  clear hp hfz hrow hs
  have hb' : b < w.heap.size := hb
  clear hb
  have ta1 := ta_int
  have ta2 := ta_str_int
  have ta3 := ta_str
  go_enter Try.func85, Try.ntmps85
  go_wp2
  go_loopw [10] (fun i wr => ∃ k : Nat, k ≤ its.length ∧ i = .int .i64 k ∧ Put w wr b o (.int .u64 (fnvL h0 (itsB (its.take k))))) (fun i _ => its.length - (intOf i).toNat)
  case atStart => exact ⟨0, by omega, rfl, Put.start HP.out⟩
  case round =>
    obtain ⟨k, hk, rfl, hput⟩ := hrel
    have HPU := Lib.hid hput
    have hsz := hput.size
    clear hput
    by_cases hlt : k < its.length
    · obtain ⟨it, hit⟩ : ∃ it, its[k]? = some it := ⟨_, List.getElem?_eq_getElem hlt⟩
      have HI := Lib.hid hit
      have hcell : wr.cell? ⟨g, k, none⟩ = some it.enc := (HPU.out.other (q := ⟨g, k, none⟩) hg hgb).trans (HR.out k it hit)
      clear hit
      cases it with
      | num n =>
        have hcell2 : wr.cell? ⟨g, k, none⟩ = some (.iface 3 (.int .i64 n)) := hcell
        clear hcell
        go_wp2_with fail
        refine (number_calls b o n (fnvL h0 (itsB (its.take k))) _ (HPU.out.cell HP.out) ((HPU.out.frozen HP.out _).trans HZ.out)).mono ?_
        rintro e w' ⟨rfl, hput2⟩
        have HQ := Lib.hid hput2
        clear hput2
        go_wp2
        go_roundw
        case rel => exact ⟨k + 1, by omega, by go_num, by rw [itsB_snoc _ _ _ HI.out, fnv_append]; exact HPU.out.step HQ.out⟩
        case measure => simp [intOf]; omega
      | text s =>
        have hcell2 : wr.cell? ⟨g, k, none⟩ = some (.iface 9 (.string s)) := hcell
        clear hcell
        have hss := HS.out s (List.mem_of_getElem? HI.out)
        have hcv := fun w => Lib.run_convert_string_bytes (P := Try.prog) w 9 104 5 s Try.underlying9 Try.underlying104 Try.underlying5
        have HCV := Lib.hid hcv
        clear hcv
        have HW := Lib.hid (show IntKind.u64.wrap (s.size : Int) = s.size by rw [IntKind.wrap_u64]; omega)
        have HEQ := Lib.hid (show fnvL h0 (itsB (its.take (k + 1))) = fnvL (fnvL (fnvL h0 (itsB (its.take k))) (numB s.size 8)) (strB s) by
          rw [itsB_snoc _ _ _ HI.out, fnv_append, show It.bytes (.text s) = numB (IntKind.u64.wrap s.size) 8 ++ strB s from rfl, fnv_append, HW.out])
        go_wp2_with fail
        refine (number_calls b o s.size (fnvL h0 (itsB (its.take k))) _ (HPU.out.cell HP.out) ((HPU.out.frozen HP.out _).trans HZ.out)).mono ?_
        rintro e w2 ⟨rfl, hput2⟩
        rw [HW.out] at hput2
        have HQ := Lib.hid (HPU.out.step hput2)
        have hsz2 := (HPU.out.step hput2).size
        clear hput2
        have hcv := HCV.out w2
        go_wp2_with fail
        clear hcv
        have HB := bytesWorld_below w2 5 s
        have hpb := HB.cell (p := ⟨b, o, none⟩) (by show b < _; omega)
        have hpf := HB.frozen (p := ⟨b, o, none⟩) (by show b < _; omega)
        have hb3 := bytes_calls b o (some ⟨w2.heap.size, 0, none⟩) (grownCap w2 s.size 0 5) (strB s) _ (Lib.bytesWorld w2 5 s) (hpb.trans (HQ.out.cell HP.out)) (hpf.trans ((HQ.out.frozen HP.out _).trans HZ.out)) (C_bytes w2 5 s (by omega)) (by rw [strB_len]; omega) (by rintro ad e _; obtain rfl := Option.some.inj e; show w2.heap.size ≠ b; omega)
        rw [strB_len] at hb3
        refine hb3.mono ?_
        rintro e w' ⟨rfl, rfl⟩
        have HE := Lib.hid (HQ.out.below HB)
        go_wp2
        go_roundw
        case rel =>
          have hfin := HE.out.step (Below.refl _ _ : Put (Lib.bytesWorld w2 5 s) _ b o (.int .u64 (fnvL (fnvL (fnvL h0 (itsB (its.take k))) (numB s.size 8)) (strB s))))
          refine ⟨k + 1, by omega, by go_num, ?_⟩
          rw [HEQ.out]
          exact hfin
        case measure => simp [intOf]; omega
    · obtain rfl : k = its.length := by omega
      go_wp2
      go_end0
      exact ⟨rfl, by have := HPU.out; rw [List.take_length] at this; exact this⟩

/-- A template's fields, one behind the other. -/
def tmplIts (img : ByteArray) (cpu mem rise fall : Int) (l : List (ByteArray × ByteArray)) : List It :=
  [.text img, .num cpu, .num mem, .num rise, .num fall, .num l.length]
theorem fnv_nil (h : Int) : fnvL h [] = h := rfl
def labIts (l : List (ByteArray × ByteArray)) : List It := l.flatMap fun x => [.text x.1, .text x.2]
theorem labIts_snoc (l : List (ByteArray × ByteArray)) (k : Nat) (h : k < l.length) : labIts (l.take (k + 1)) = labIts (l.take k) ++ [.text l[k].1, .text l[k].2] := by
  rw [List.take_succ_eq_append_getElem h]
  unfold labIts
  rw [List.flatMap_append]
  rfl
theorem itsB_append (a b : List It) : itsB (a ++ b) = itsB a ++ itsB b := by simp [itsB]
theorem rows_lit (w : World) (its : List It) (t : TypeId) (cs : Array Value) (g : Nat) (hcs : cs.toList = its.map It.enc) (hg : g = w.heap.size) : ∀ (j : Nat) it, its[j]? = some it → (w.alloc (.cells cs t)).cell? ⟨g, j, none⟩ = some it.enc := by
  intro j it h
  subst hg
  rw [cell_new, ← Array.getElem?_toList, hcs]
  simp [h]
set_option maxRecDepth 100000 in
set_option maxHeartbeats 2000000 in
theorem template_calls (A : Option Addr) (c : Nat) (l : List (ByteArray × ByteArray)) (cpu mem rise fall : Int) (img : ByteArray) (v0 v1 v2 v3 v5 v6 v7 v8 v9 v10 v11 v12 v13 v14 v15 v16 v22 v23 v24 v25 v26 v27 v28 v29 v30 v31 : Value) (w : World)
    (hr : Kd.C (Kd.pair Kd.string Kd.string) w A l.length l) (himg : img.size ≤ 140737488351232) (hlab : ∀ x ∈ l, x.1.size ≤ 140737488351232 ∧ x.2.size ≤ 140737488351232) :
    Calls Try.prog 48 #[.agg #[v0, v1, v2, v3, .slice A l.length c, v5, v6, v7, v8, v9, v10, v11, v12, v13, v14, v15, v16, .int .i64 cpu, .int .i64 mem, .string img, .int .i64 rise, .int .i64 fall, v22, v23, v24, v25, v26, v27, v28, v29, v30, v31]] w fun e w' => e = .returned (.int .u64 (fnvL 14695981039346656037 (itsB (tmplIts img cpu mem rise fall l ++ labIts l)))) ∧ Below w.heap.size w w' := by
  have hm := hr.2.1
  have HR := Lib.hid hr
  have HL := Lib.hid hlab
  clear hr hlab
  go_enter Try.func48, Try.ntmps48
  go_wp2_with fail
  have hf := fields_calls (w.heap.size + 1) 0 (w.heap.size + 1 + 1) 6 (tmplIts img cpu mem rise fall l) 14695981039346656037
  refine (hf _ (by go_cell) (by go_cell) (rows_lit _ _ _ _ _ rfl (by simp)) (by simp) (by omega) (by simp [tmplIts]) (by intro s hs; simp [tmplIts] at hs; subst hs; exact himg)).mono ?_
  rintro e w1 ⟨rfl, hput⟩
  clear hf
  have HB := hput.since (below_alloc (below_alloc (below_alloc (Below.refl w.heap.size w) _) _) _) (by omega)
  have hc1 := hput.cell (x := .int .u64 14695981039346656037) (by go_cell)
  have hf1 : w1.frozen? ⟨w.heap.size + 1, 0, none⟩ = false := (hput.frozen (x := .int .u64 14695981039346656037) (by go_cell) 0).trans (by go_cell)
  have hs1 := hput.size
  have hs2 : w.heap.size + 3 ≤ w1.heap.size := by simp at hs1; omega
  have hbox : w1.cell? ⟨w.heap.size, 4, none⟩ = some (.slice A l.length c) := (hput.other (q := ⟨w.heap.size, 4, none⟩) (by simp; omega) (by simp)).trans (by go_cell)
  have HB := Lib.hid HB
  clear hput hs1
  go_wp2
  go_loopw [32] (fun i wr => ∃ k : Nat, k ≤ l.length ∧ i = .int .i64 k ∧ Hid (Below w.heap.size w wr) ∧ w.heap.size + 3 ≤ wr.heap.size ∧ wr.cell? ⟨w.heap.size + 1, 0, none⟩ = some (.int .u64 (fnvL (fnvL 14695981039346656037 (itsB (tmplIts img cpu mem rise fall l))) (itsB (labIts (l.take k))))) ∧ wr.frozen? ⟨w.heap.size + 1, 0, none⟩ = false) (fun i _ => l.length - (intOf i).toNat)
  case atStart => exact ⟨0, by omega, rfl, HB, hs2, by rw [show itsB (labIts (l.take 0)) = [] from rfl, fnv_nil]; exact hc1, hf1⟩
  case round =>
    clear hc1 hf1 hbox
    obtain ⟨k, hk, rfl, HBr, hsr, hcr, hfr⟩ := hrel
    by_cases hlt : k < l.length
    · obtain ⟨ad, cs, rfl, hcl, hK, hcell⟩ := Kd.C_get (Kd.C_below HR.out HBr.out) (ByteArray.empty, ByteArray.empty) (k : Int) (by omega) (by omega)
      obtain ⟨_, _, rfl, rfl, rfl⟩ := hK
      have hx : l.getD (k : Int).toNat (ByteArray.empty, ByteArray.empty) = l[k] := by simp [List.getD_eq_getElem?_getD, List.getElem?_eq_getElem hlt]
      rw [hx] at hcell
      have h0 : wr.cell? (ad.add (k * 2)) = some (.string l[k].1) := hcell 0 _ rfl
      have h1 : wr.cell? ⟨(ad.add (k * 2)).block, (ad.add (k * 2)).off + 1, none⟩ = some (.string l[k].2) := by
        rw [← add_field _ _ 1 (by omega)]
        exact hcell 1 _ rfl
      have hlk := HL.out l[k] (List.getElem_mem hlt)
      have HSN := Lib.hid (labIts_snoc l k hlt)
      clear hcell hcl hx
      generalize l[k] = lk at h0 h1 hlk HSN
      have HCW : Hid (∀ o1 o2, ((wr.alloc o1).alloc o2).cell? ⟨w.heap.size + 1, 0, none⟩ = some (.int .u64 (fnvL (fnvL 14695981039346656037 (itsB (tmplIts img cpu mem rise fall l))) (itsB (labIts (l.take k)))))) := by
        intro o1 o2
        rw [World.cell?_alloc_lt _ _ _ (by simp; omega), World.cell?_alloc_lt _ _ _ (by simp; omega)]; exact hcr
      have HFW : Hid (∀ o1 o2, ((wr.alloc o1).alloc o2).frozen? ⟨w.heap.size + 1, 0, none⟩ = false) := by
        intro o1 o2
        rw [World.frozen?_alloc_old _ _ _ (by simp; omega), World.frozen?_alloc_old _ _ _ (by simp; omega)]; exact hfr
      go_wp2_with fail
      have hf := fields_calls (w.heap.size + 1) 0 (wr.heap.size + 1) 2 [.text lk.1, .text lk.2] (fnvL (fnvL 14695981039346656037 (itsB (tmplIts img cpu mem rise fall l))) (itsB (labIts (l.take k))))
      refine (hf _ (HCW.out _ _) (HFW.out _ _) (rows_lit _ _ _ _ _ rfl (by simp)) (by simp) (by omega) (by simp) (by intro s hs; simp at hs; rcases hs with rfl | rfl; exact hlk.1; exact hlk.2)).mono ?_
      rintro e w2 ⟨rfl, hput⟩
      clear hf
      have HB2 := Lib.hid (hput.since (below_alloc (below_alloc HBr.out _) _) (by omega))
      have HC2 := Lib.hid (hput.cell (HCW.out _ _))
      have HF2 : Hid (w2.frozen? ⟨w.heap.size + 1, 0, none⟩ = false) := (hput.frozen (HCW.out _ _) 0).trans (HFW.out _ _)
      have hs3 : w.heap.size + 3 ≤ w2.heap.size := by have := hput.size; simp at this; omega
      clear hput h0 h1 hcr hfr
      go_wp2
      go_roundw
      case rel => exact ⟨k + 1, by omega, by go_num, HB2, hs3, by rw [HSN.out, itsB_append, fnv_append]; exact HC2.out, HF2.out⟩
      case measure => simp [intOf]; omega
    · obtain rfl : k = l.length := by omega
      go_wp2
      go_ret
      exact ⟨by rw [itsB_append, fnv_append]; rfl, HBr.out⟩
end Go.Proofs.Ytnoaglgjhgnnfaa.Dig
