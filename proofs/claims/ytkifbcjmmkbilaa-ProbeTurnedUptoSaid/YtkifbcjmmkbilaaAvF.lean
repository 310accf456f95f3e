/- The interpreter's quiet step, whole. -/
import Derived.Test.YtkifbcjmmkbilaaAvE
set_option linter.unusedVariables false
set_option linter.unusedSimpArgs false
namespace Go.Proofs.Ytkifbcjmmkbilaa.Av
open Go Go.RowKit
variable {P : Program}
section
variable {S : Sto} {H : List Blk} {pl : Pl} {A : Nat → Prop} {ds : List Deferred} {G : World → Prop} {B : Nat} {w0 w : World} {C : Ctx}


theorem lenA_sound (h : WRel A G B w0 S H pl w) {x : AV} {u : Value} {n : Nat} (hx : Rep S H pl x u) (e : lenA x H = some n) : ∃ a c, u = .slice a n c := by
  cases x with
  | z b sz =>
    simp only [lenA, Option.some.injEq] at e
    subst e
    cases hx with
    | val _ _ r => cases r with
      | znil => exact ⟨_, _, rfl⟩
      | zsome _ a => exact ⟨_, _, rfl⟩
  | lst sz m k get =>
    simp only [lenA, Option.some.injEq] at e
    subst e
    cases hx with
    | val _ _ r => cases r with
      | nil => exact ⟨_, _, rfl⟩
      | lst _ _ _ _ a cap => exact ⟨_, _, rfl⟩
  | own id ver =>
    simp only [lenA] at e
    cases hH : H[id]? with
    | none => simp [hH] at e
    | some blk =>
      cases blk <;> simp [hH] at e
      obtain ⟨rfl, rfl⟩ := e
      cases hx with
      | val _ _ r => cases r
      | own _ _ _ hi h1 k =>
        have := (k _ _ _ _ _ hH).2 rfl
        subst this
        cases hp : pl id with
        | none =>
          have := (h.h.grow id _ _ _ _ _ hH).2.2.1 hp
          subst this
          exact ⟨_, _, rfl⟩
        | some bc => exact ⟨_, _, rfl⟩
  | cut id ver m =>
    simp only [lenA] at e
    cases hH : H[id]? with
    | none => simp [hH] at e
    | some blk =>
      cases blk <;> simp [hH] at e
      obtain ⟨rfl, rfl⟩ := e
      cases hx with
      | val _ _ r => cases r
      | cut _ _ _ _ hi h1 k =>
        have h2 := (k _ _ _ _ _ hH).2 rfl
        rw [h2.2]
        cases hp : pl id with
        | none =>
          have := (h.h.grow id _ _ _ _ _ hH).2.2.1 hp
          subst this
          have : m = 0 := Nat.le_zero.1 h2.1
          subst this
          exact ⟨_, _, rfl⟩
        | some bc => exact ⟨_, _, rfl⟩
  | v x =>
    have := hx.v_inv
    subst this
    cases u <;> simp [lenA] at e
    subst e
    exact ⟨_, _, rfl⟩
  | _ => simp [lenA] at e

theorem congr_bin {o : Oper} {op : BinOp} {t t' : TypeId} {x y : Operand} (ho : o.op = .binOp op t x y t') (r r' : Operand → Value) (h : ∀ z ∈ o.op.operands, r z = r' z) : execOp r o = execOp r' o := by
  have hx := h x (by simp [ho, Op.operands])
  have hy := h y (by simp [ho, Op.operands])
  simp only [execOp, ho, hx, hy]
theorem congr_un {o : Oper} {op : UnOp} {t : TypeId} {x : Operand} (ho : o.op = .unOp op t x) (r r' : Operand → Value) (h : ∀ z ∈ o.op.operands, r z = r' z) : execOp r o = execOp r' o := by
  have hx := h x (by simp [ho, Op.operands])
  simp only [execOp, ho, hx]
theorem congr_conv {o : Oper} {t t' : TypeId} {x : Operand} (ho : o.op = .convert t t' x) (r r' : Operand → Value) (h : ∀ z ∈ o.op.operands, r z = r' z) : execOp r o = execOp r' o := by
  have hx := h x (by simp [ho, Op.operands])
  simp only [execOp, ho, hx]
theorem congr_index {o : Oper} {t : TypeId} {x y : Operand} (ho : o.op = .index t x y) (r r' : Operand → Value) (h : ∀ z ∈ o.op.operands, r z = r' z) : execOp r o = execOp r' o := by
  have hx := h x (by simp [ho, Op.operands])
  have hy := h y (by simp [ho, Op.operands])
  simp only [execOp, ho, hx, hy]
theorem congr_slice {o : Oper} {t : TypeId} {x : Operand} {lo hi mx : Option Operand} (ho : o.op = .slice t x lo hi mx) (r r' : Operand → Value) (h : ∀ z ∈ o.op.operands, r z = r' z) : execOp r o = execOp r' o := by
  have hx := h x (by simp [ho, Op.operands])
  have h1 : lo.map r = lo.map r' := by cases lo with | none => rfl | some z => simp [h z (by simp [ho, Op.operands])]
  have h2 : hi.map r = hi.map r' := by cases hi with | none => rfl | some z => simp [h z (by simp [ho, Op.operands])]
  have h3 : mx.map r = mx.map r' := by cases mx with | none => rfl | some z => simp [h z (by simp [ho, Op.operands])]
  simp only [execOp, ho, hx, h1, h2, h3]
theorem congr_builtin {o : Oper} {c : Call} {b : Builtin} (ho : o.op = .call c) (hc : c.callee = .builtin b) (r r' : Operand → Value) (h : ∀ z ∈ o.op.operands, r z = r' z) : execOp r o = execOp r' o := by
  have ha : c.args.map r = c.args.map r' := by
    apply Array.map_congr_left
    intro z hz
    exact h z (by simp [ho, Op.operands, Call.operands, hc, hz])
  simp only [execOp, ho, resolve, hc, ha]


theorem strslice_sound (hT : TdOk P C) {t : Nat} {z : ByteArray} (htd : C.td t = .one (.string z)) {s : ByteArray} {kl kh : IntKind} {l h : Int} (h0 : 0 ≤ l) (h1 : l ≤ h) (h2 : h ≤ s.size)
    (lo hi : Option Value) (hlo : lo = some (.int kl l) ∨ lo = none ∧ l = 0) (hhi : hi = some (.int kh h) ∨ hi = none ∧ h = s.size) :
    (Instr.sliceAt t (.string s) lo hi none).run P w = .ok (.string (s.extract l.toNat h.toNat)) w := by
  obtain ⟨⟨d, hu, _, hk⟩, _⟩ := hT.one t _ htd
  have hk' : d = .string := hk
  subst hk'
  rw [run_sliceAt_string w t _ _ _ _ hu]
  have e1 : (l.toNat : Int) = l := Int.toNat_of_nonneg h0
  have e2 : (h.toNat : Int) = h := Int.toNat_of_nonneg (by omega)
  rcases hlo with rfl | ⟨rfl, rfl⟩ <;> rcases hhi with rfl | ⟨rfl, rfl⟩
  · simp [Instr.slice, run_underlying hu, Instr.sliceBounds, run_sliceBound, (by omega : 0 ≤ h), h2, e2, h0, h1]
  · simp [Instr.slice, run_underlying hu, Instr.sliceBounds, run_sliceBound, h0, h1]
  · simp [Instr.slice, run_underlying hu, Instr.sliceBounds, run_sliceBound, (by omega : 0 ≤ h), h2]
  · simp [Instr.slice, run_underlying hu, Instr.sliceBounds]

theorem boundA_inv {d n : Int} {tmps : List AV} {a : Act} (ht : TRel ds S H pl tmps a) {x : Option Operand} (e : boundA d (x.map (evA tmps)) = some n) : ∃ k, x.map a.eval = some (.int k n) ∨ x.map a.eval = none ∧ n = d := by
  cases x with
  | none => simp [boundA] at e; exact ⟨.i64, .inr ⟨rfl, e.symm⟩⟩
  | some y =>
    simp only [Option.map_some, boundA] at e
    split at e
    · rename_i heq; cases heq
    · rename_i k l heq
      obtain rfl := Option.some.inj e
      have := ht.ev y
      rw [Option.some.inj heq] at this
      exact ⟨k, .inl (by simp [this.v_inv])⟩
    · cases e

theorem bound_mx {tmps : List AV} {a : Act} {hi mx : Option Operand} (h : ((mx.map (evA tmps)).isNone || (hi.map (evA tmps)).isSome) = true) : mx = none ∨ hi.isSome = true := by
  cases mx <;> cases hi <;> simp_all
theorem sliceA_sound {S' : Sto} {H' : List Blk} {pl' : Pl} {tmps : List AV} {a : Act} {t : Nat} {lo hi mx : Option Operand} {x y : AV} {u : Value} (hT : TdOk P C) (ht : TRel ds S H pl tmps a) (hx : Rep S' H' pl' x u)
    (e : sliceA (C.td t) x (lo.map (evA tmps)) (hi.map (evA tmps)) (mx.map (evA tmps)) = some y) : ∃ r, (Instr.sliceAt t u (lo.map a.eval) (hi.map a.eval) (mx.map a.eval)).run P w = .ok r w ∧ Rep S' H' pl' y r := by
  unfold sliceA at e
  split at e
  · rename_i d' ax e' sz' by' sz n m get htd
    split at e
    · rename_i hss
      obtain ⟨rfl, hmo⟩ := hss
      split at e
      · rename_i l h' k hl hh hk
        split at e
        · rename_i hb
          obtain rfl := Option.some.inj e
          obtain ⟨kl, hl'⟩ := boundA_inv ht hl
          obtain ⟨kh, hh'⟩ := boundA_inv ht hh
          obtain ⟨km, hk'⟩ := boundA_inv ht hk
          have hm : mx.map a.eval = none ∨ hi.map a.eval = some (.int kh h') := by
            rcases bound_mx (a := a) hmo with rfl | q
            · exact .inl rfl
            · rcases hh' with q' | ⟨q', _⟩
              · exact .inr q'
              · cases hi with | none => cases q | some z => cases q'
          obtain ⟨r, hr, hy⟩ := slice_sound (w := w) hT htd hx (kl := kl) (kh := kh) (km := km) hb.1 hb.2.1 hb.2.2.1 hb.2.2.2 _ _ _ hl' hh' hk' hm
          exact ⟨r, hr, hy.lst_congr fun i hi => by simp only [nrm, if_pos hi]⟩
        · cases e
      · cases e
    · cases e
  · rename_i d' ax z s htd
    split at e
    · rename_i hmx
      have hmx' : mx = none := by cases mx with | none => rfl | some _ => simp at hmx
      subst hmx'
      split at e
      · rename_i l h' hl hh
        split at e
        · rename_i hb
          obtain rfl := Option.some.inj e
          obtain ⟨kl, hl'⟩ := boundA_inv ht hl
          obtain ⟨kh, hh'⟩ := boundA_inv ht hh
          have hr := strslice_sound (w := w) hT htd (kl := kl) (kh := kh) hb.1 hb.2.1 hb.2.2 _ _ hl' hh'
          exact ⟨_, by rw [hx.v_inv]; exact hr, .val _ _ (.v _)⟩
        · cases e
      · cases e
    · cases e
  · cases e

theorem slice_op {tmps : List AV} {a : Act} {o : Oper} {t : Nat} {x : Operand} {lo hi mx : Option Operand} {y : AV} (hT : TdOk P C) (ht : TRel ds S H pl tmps a) (h : WRel A G B w0 S H pl w) (ho : o.op = .slice t x lo hi mx)
    (e : sliceA (C.td t) (evA tmps x) (lo.map (evA tmps)) (hi.map (evA tmps)) (mx.map (evA tmps)) = some y) : OpW P A G B w0 o a S H pl w y H := by
  obtain ⟨r, hr, hy⟩ := sliceA_sound (w := w) hT ht (ht.ev x) e
  exact .still h (by simp [execOp, ho, hr]) hy

theorem eqNil_sound (hT : TdOk P C) {t : Nat} {a b : AV} {x y : Value} (ha : Rep S H pl a x) (hb : Rep S H pl b y) {r : Bool} (e : eqNil (C.td t) a b = some r) : (Op.equal t x y).run P w = .ok r w := by
  unfold eqNil at e
  unfold Op.equal
  obtain ⟨n, hn⟩ : ∃ n, Op.maxDepth = n + 1 := ⟨9999, rfl⟩
  rw [hn]
  clear hn
  split at e <;> first | (cases e; done) | skip
  all_goals
    rename_i htd
    obtain rfl := Option.some.inj e
    obtain ⟨⟨d, hu, _, hk⟩, _⟩ := hT.one t _ htd
    simp only [oneKind] at hk
  · obtain ⟨ms, rfl⟩ := hk
    obtain ⟨u, rfl, _⟩ := ha.ifc_inv
    obtain rfl := hb.v_inv
    simp [Op.equalIn, run_underlying hu]
  · obtain ⟨ms, rfl⟩ := hk
    obtain ⟨u, rfl, _⟩ := hb.ifc_inv
    obtain rfl := ha.v_inv
    simp [Op.equalIn, run_underlying hu]
  · obtain ⟨ms, rfl⟩ := hk
    obtain rfl := hb.v_inv
    obtain rfl := ha.v_inv
    simp [Op.equalIn, run_underlying hu]
  · obtain ⟨ms, rfl⟩ := hk
    obtain rfl := hb.v_inv
    obtain rfl := ha.v_inv
    simp [Op.equalIn, run_underlying hu]
  · obtain ⟨ms, rfl⟩ := hk
    obtain rfl := hb.v_inv
    obtain rfl := ha.v_inv
    simp [Op.equalIn, run_underlying hu]
  · obtain ⟨_, _, _, rfl⟩ := hk
    obtain ⟨u, rfl, _⟩ := ha.fn_inv
    obtain rfl := hb.v_inv
    simp [Op.equalIn, run_underlying hu]
  · obtain ⟨_, _, _, rfl⟩ := hk
    obtain rfl := hb.v_inv
    obtain rfl := ha.v_inv
    simp [Op.equalIn, run_underlying hu]
  · obtain ⟨_, rfl⟩ := hk
    obtain rfl := hb.v_inv
    cases ha with
    | val _ _ q =>
      cases q with
      | ept _ ad f => simp [Op.equalIn, run_underlying hu]
  · obtain ⟨_, rfl⟩ := hk
    obtain rfl := hb.v_inv
    obtain rfl := ha.v_inv
    simp [Op.equalIn, run_underlying hu]
  · subst hk
    obtain rfl := hb.v_inv
    obtain rfl := ha.v_inv
    simp [Op.equalIn, run_underlying hu]


/-- Values whose equality goes by their type. -/
def byType : Value → Bool
  | .int .. | .string _ | .float .. | .complex .. => false
  | _ => true
theorem binOp_eql {t : TypeId} {u v : Value} (h : byType u = true) {r : Bool} (e : (Op.equal t u v).run P w = .ok r w) : (binOp .eql t u v).run P w = .ok (.bool r) w := by
  unfold binOp
  cases u <;> simp [byType] at h <;> simp [Sem.run_bind, e]
theorem binOp_neq {t : TypeId} {u v : Value} (h : byType u = true) {r : Bool} (e : (Op.equal t u v).run P w = .ok r w) : (binOp .neq t u v).run P w = .ok (.bool (!r)) w := by
  unfold binOp
  cases u <;> simp [byType] at h <;> simp [Sem.run_bind, e]

theorem eqNil_shape (h : TdOk P C) {t : Nat} {a b : AV} {x y : Value} (ha : Rep S H pl a x) (hb : Rep S H pl b y) {r : Bool} (e : eqNil (C.td t) a b = some r) (p q : Operand) (op : BinOp)
    (hc : (isConst p || isConst q || isBoolT (C.td t)) = true) : byType x = true ∧ (eqGuard op t p q x y).run P w = .ok () w := by
  have hcc : (isConst p = true ∨ isConst q = true) → (eqGuard op t p q .nilIface .nilIface).run P w = .ok () w := by
    intro hpq
    unfold eqGuard
    rcases hpq with hp | hq
    · cases p <;> simp [isConst] at hp
      cases op <;> simp
    · cases q <;> simp [isConst] at hq
      cases op <;> simp
  unfold eqNil at e
  split at e <;> first | (cases e; done) | skip
  · obtain ⟨u, rfl, _⟩ := ha.ifc_inv
    obtain rfl := hb.v_inv
    exact ⟨rfl, by unfold eqGuard; cases op <;> simp⟩
  · obtain ⟨u, rfl, _⟩ := hb.ifc_inv
    obtain rfl := ha.v_inv
    exact ⟨rfl, by unfold eqGuard; cases op <;> simp⟩
  · obtain rfl := hb.v_inv
    obtain rfl := ha.v_inv
    exact ⟨rfl, by unfold eqGuard; cases op <;> simp⟩
  · obtain rfl := hb.v_inv
    obtain rfl := ha.v_inv
    exact ⟨rfl, by unfold eqGuard; cases op <;> simp⟩
  · rename_i htd
    obtain rfl := hb.v_inv
    obtain rfl := ha.v_inv
    rw [htd] at hc
    simp [isBoolT] at hc
    exact ⟨rfl, hcc hc⟩
  · obtain ⟨u, rfl, _⟩ := ha.fn_inv
    obtain rfl := hb.v_inv
    exact ⟨rfl, by unfold eqGuard; cases op <;> simp⟩
  · obtain rfl := hb.v_inv
    obtain rfl := ha.v_inv
    exact ⟨rfl, by unfold eqGuard; cases op <;> simp⟩
  · obtain rfl := hb.v_inv
    cases ha with
    | val _ _ q =>
      cases q with
      | ept _ ad f => exact ⟨rfl, by unfold eqGuard; cases op <;> simp⟩
  · obtain rfl := hb.v_inv
    obtain rfl := ha.v_inv
    exact ⟨rfl, by unfold eqGuard; cases op <;> simp⟩
  · obtain rfl := hb.v_inv
    obtain rfl := ha.v_inv
    exact ⟨rfl, by unfold eqGuard; cases op <;> simp⟩

theorem opS_op {tmps : List AV} {a : Act} {o : Oper} {b : BinOp} {t t' : Nat} {x y : Operand} {r : AV} (ht : TRel ds S H pl tmps a) (h : WRel A G B w0 S H pl w) (ho : o.op = .binOp b t x y t') (e : opS b (evA tmps x) (evA tmps y) = some r) : OpW P A G B w0 o a S H pl w r H := by
  have hx := ht.ev x
  have hy := ht.ev y
  unfold opS at e
  split at e
  · rename_i s s' h1 h2
    obtain rfl := Option.some.inj e
    rw [h1] at hx
    rw [h2] at hy
    exact .still h (u := .bool (decide (s = s'))) (by simp [execOp, ho, hx.v_inv, hy.v_inv, eqGuard, binOp, Op.stringOp, ← beq_toListBytes, bytes_eq]) (.val _ _ (.v _))
  · rename_i s s' h1 h2
    obtain rfl := Option.some.inj e
    rw [h1] at hx
    rw [h2] at hy
    exact .still h (u := .bool (!decide (s = s'))) (by simp [execOp, ho, hx.v_inv, hy.v_inv, eqGuard, binOp, Op.stringOp, ← beq_toListBytes, bytes_eq]) (.val _ _ (.v _))
  · rename_i k s k' n h1 h2
    obtain rfl := Option.some.inj e
    rw [h1] at hx
    rw [h2] at hy
    have h0 : ¬ ((Int.ofNat n) < 0) := by simp
    exact .still h (u := .int k (k.wrap (s * 2 ^ min n k.bits))) (by simp only [execOp, ho, hx.v_inv, hy.v_inv, binOp, Op.shift, if_neg h0]; simp [eqGuard]) (.val _ _ (.v _))
  · rename_i k s k' n h1 h2
    obtain rfl := Option.some.inj e
    rw [h1] at hx
    rw [h2] at hy
    have h0 : ¬ ((Int.ofNat n) < 0) := by simp
    exact .still h (u := .int k (s.fdiv (2 ^ min n k.bits))) (by simp only [execOp, ho, hx.v_inv, hy.v_inv, binOp, Op.shift, if_neg h0]; simp [eqGuard]) (.val _ _ (.v _))
  · rename_i k s k' n h1 h2
    split at e
    · rename_i hn
      obtain ⟨rfl, hn⟩ := hn
      obtain rfl := Option.some.inj e
      rw [h1] at hx
      rw [h2] at hy
      exact .still h (u := .int k (s.tmod n)) (by simp [execOp, ho, hx.v_inv, hy.v_inv, eqGuard, binOp, Op.intDiv, if_neg hn]) (.val _ _ (.v _))
    · cases e
  · rename_i k s k' n h1 h2
    split at e
    · rename_i hn
      obtain ⟨rfl, hn⟩ := hn
      obtain rfl := Option.some.inj e
      rw [h1] at hx
      rw [h2] at hy
      exact .still h (u := .int k (k.wrap (s.tdiv n))) (by simp [execOp, ho, hx.v_inv, hy.v_inv, eqGuard, binOp, Op.intDiv, if_neg hn]) (.val _ _ (.v _))
    · cases e
  · rename_i s s' h1 h2
    split at e
    · rename_i hle
      obtain rfl := Option.some.inj e
      rw [h1] at hx
      rw [h2] at hy
      have hn : ¬ (IntKind.i64.max < ((s.size + s'.size : Nat) : Int)) := by
        have : IntKind.i64.max = 9223372036854775807 := rfl
        omega
      exact .still h (u := .string (s ++ s')) (by simp only [execOp, ho, hx.v_inv, hy.v_inv, binOp, Op.stringOp, gt_iff_lt, if_neg hn]; simp [eqGuard]) (.val _ _ (.v _))
    · cases e
  · cases e

theorem mm_args {tmps : List AV} {a : Act} {c : Call} {k k' : IntKind} {x y : Int} (ht : TRel ds S H pl tmps a) (hl : c.args.toList.map (evA tmps) = [.v (.int k x), .v (.int k' y)]) : c.args.map a.eval = #[.int k x, .int k' y] := by
  obtain ⟨p, q, hpq⟩ : ∃ p q, c.args.toList = [p, q] := by
    cases hz : c.args.toList with
    | nil => rw [hz] at hl; cases hl
    | cons p r =>
      cases r with
      | nil => rw [hz] at hl; simp at hl
      | cons q r =>
        cases r with
        | nil => exact ⟨p, q, rfl⟩
        | cons _ _ => rw [hz] at hl; simp at hl
  rw [hpq] at hl
  simp only [List.map_cons, List.map_nil, List.cons.injEq, and_true] at hl
  have hp := ht.ev p
  have hq := ht.ev q
  rw [hl.1] at hp
  rw [hl.2] at hq
  rw [← Array.toArray_toList (xs := c.args), hpq]
  simp [hp.v_inv, hq.v_inv]
theorem mm_op {tmps : List AV} {a : Act} {o : Oper} {c : Call} {mx : Bool} {r : AV} (ht : TRel ds S H pl tmps a) (h : WRel A G B w0 S H pl w) (ho : o.op = .call c) (hc : mx = false ∧ c.callee = .builtin .min ∨ mx = true ∧ c.callee = .builtin .max)
    (e : mmA mx (c.args.toList.map (evA tmps)) = some r) : OpW P A G B w0 o a S H pl w r H := by
  rcases hc with ⟨rfl, hc⟩ | ⟨rfl, hc⟩
  · unfold mmA at e
    split at e
    · rename_i hb _; cases hb
    · rename_i k x k' y _ hl
      obtain rfl := Option.some.inj e
      refine .still h (u := .int k (min x y)) ?_ (.val _ _ (.v _))
      have : min x y = if y < x then y else x := by
        split <;> omega
      simp [execOp, ho, resolve, hc, mm_args ht hl, invoke, builtin, Sem.run_bind, run_min_int2, this]
    · cases e
  · unfold mmA at e
    split at e
    · rename_i k x k' y _ hl
      obtain rfl := Option.some.inj e
      refine .still h (u := .int k (max x y)) ?_ (.val _ _ (.v _))
      have : max x y = if y > x then y else x := by
        split <;> omega
      simp [execOp, ho, resolve, hc, mm_args ht hl, invoke, builtin, Sem.run_bind, run_max_int2, this]
    · rename_i hb _; cases hb
    · cases e

theorem eqA_sound {tmps : List AV} {a : Act} {t : Nat} {x y : Operand} {r : Bool} (hK : CtxOk P C G) (ht : TRel ds S H pl tmps a) (e : eqA C t (isConst x || isConst y) (evA tmps x) (evA tmps y) = some r) (op : BinOp) :
    byType (a.eval x) = true ∧ (eqGuard op t x y (a.eval x) (a.eval y)).run P w = .ok () w ∧ (Op.equal t (a.eval x) (a.eval y)).run P w = .ok r w := by
  have hx := ht.ev x
  have hy := ht.ev y
  unfold eqA at e
  split at e
  · rename_i cs ds hcs hds
    rw [hcs] at hx
    rw [hds] at hy
    obtain ⟨us, hu, hcu⟩ := hx.agg_inv
    obtain ⟨vs, hv, hcv⟩ := hy.agg_inv
    split at e
    · rename_i us' vs' k ks h1 h2 h3
      have e1 := plainsOf_rep h1 hcu
      have e2 := plainsOf_rep h2 hcv
      subst e1
      subst e2
      have hne : C.eqs t ≠ [] := by rw [h3]; simp
      rw [← h3] at e
      rw [hu, hv]
      exact ⟨rfl, eqGuard_flat hK hne op x y _ _, equal_flat hK hne e⟩
    · cases e
  · split at e
    · rename_i hc
      have hs := eqNil_shape (w := w) hK.td hx hy e x y op hc
      exact ⟨hs.1, hs.2, eqNil_sound hK.td hx hy e⟩
    · cases e

theorem eql_op {tmps : List AV} {a : Act} {o : Oper} {t t' : Nat} {x y : Operand} {r : Bool} (hK : CtxOk P C G) (ht : TRel ds S H pl tmps a) (h : WRel A G B w0 S H pl w) (ho : o.op = .binOp .eql t x y t')
    (e : eqA C t (isConst x || isConst y) (evA tmps x) (evA tmps y) = some r) : OpW P A G B w0 o a S H pl w (.v (.bool r)) H := by
  obtain ⟨h1, h2, h3⟩ := eqA_sound (w := w) hK ht e .eql
  exact .still h (by simp only [execOp, ho, Sem.run_bind, h2, binOp_eql h1 h3, Result.andThen_ok, Sem.run_pure]) (.val _ _ (.v _))
theorem neq_op {tmps : List AV} {a : Act} {o : Oper} {t t' : Nat} {x y : Operand} {r : Bool} (hK : CtxOk P C G) (ht : TRel ds S H pl tmps a) (h : WRel A G B w0 S H pl w) (ho : o.op = .binOp .neq t x y t')
    (e : eqA C t (isConst x || isConst y) (evA tmps x) (evA tmps y) = some r) : OpW P A G B w0 o a S H pl w (.v (.bool (!r))) H := by
  obtain ⟨h1, h2, h3⟩ := eqA_sound (w := w) hK ht e .neq
  exact .still h (by simp only [execOp, ho, Sem.run_bind, h2, binOp_neq h1 h3, Result.andThen_ok, Sem.run_pure]) (.val _ _ (.v _))

theorem callMA_inv {f : AV} {args : List AV} {x : AV} {Hr : List Blk} (e : callMA C f args H = some (x, Hr)) : ∃ n caps m as, f = .fn n caps ∧ C.m n = some m ∧ AV.vals H (args ++ caps) = some as ∧ m as = some (x, Hr) ∧ ((x.flo && Hr.all Blk.flat) || AV.hbs 0 (args ++ caps)) = true := by
  unfold callMA at e
  split at e
  · rename_i n caps
    split at e
    · rename_i m hm
      split at e
      · rename_i as ha
        split at e
        · rename_i r' Hr' hr
          split at e
          · rename_i hfl
            simp only [Option.some.injEq, Prod.mk.injEq] at e
            obtain ⟨rfl, rfl⟩ := e
            exact ⟨n, caps, m, as, rfl, hm, ha, hr, hfl⟩
          · cases e
        · cases e
      · cases e
    · cases e
  · cases e
theorem callMA_op {tmps : List AV} {a : Act} {o : Oper} {c : Call} {f : Operand} {x : AV} {Hr : List Blk} (hK : CtxOk P C G) (ht : TRel ds S H pl tmps a) (h : WRel A G B w0 S H pl w) (ho : o.op = .call c) (hc : c.callee = .value f)
    (e : callMA C (evA tmps f) (c.args.toList.map (evA tmps)) H = some (x, Hr)) : OpW P A G B w0 o a S H pl w (x.shift H.length) (H ++ Hr.map (Blk.shift H.length)) := by
  obtain ⟨n, caps, m, as, hf, hm, ha, hr, hfl⟩ := callMA_inv e
  exact call_m hK ht h ho hc hf hm ha hr hfl
theorem callMA_q {tmps : List AV} {a : Act} {o : Oper} {c : Call} {f : Operand} {x y : AV} {Hr : List Blk} (hG : ∀ w', Below B w0 w' → G w') (hK : CtxOk P C G) (ht : TRel ds S H pl tmps a) (h : WRel A G B w0 S H pl w) (ho : o.op = .call c) (hc : c.callee = .value f)
    (e : callMA C (evA tmps f) (c.args.toList.map (evA tmps)) H = some (x, Hr)) (hv : AV.val Hr x = some y) : OpW P A G B w0 o a S H pl w y H := by
  obtain ⟨n, caps, m, as, hf, hm, ha, hr, hfl⟩ := callMA_inv e
  intro next Q k
  refine call_any hK ht h ho hc hf hm ha hr hfl next Q fun u S' plr w' hS hsep hW hR => ?_
  obtain ⟨S2, hE, hW2, hR2⟩ := h.freeze hG hS hsep hW hR hv
  exact k u S2 pl w' hE hW2 (.val _ _ hR2)

end
end Go.Proofs.Ytkifbcjmmkbilaa.Av
