/- flotillakit.Plain and Num as summaries: of no error, a number, a number with a place. -/
import Derived.Test.YtalkodandfjkmaaDoorPlain
import Derived.Test.YtalkodandfjkmaaDoorMg2
import Derived.Test.YtalkodandfjkmaaDoorMg1
set_option linter.unusedVariables false
set_option linter.unusedSimpArgs false
namespace Go.Proofs.YtalkodandfjkmaaDoor.Ag
open Go Go.RowKit Go.Proofs.YtalkodandfjkmaaDoor.Av
open Go.Proofs.YtalkodandfjkmaaDoor.As (Glob)
open Go.Proofs.YtalkodandfjkmaaDoor

/-- An error as the interpreter has it. -/
def erV : Value → Option Er
  | .nilIface => some .ok
  | .iface t (.int .i64 n) => match Nat.beq t 46 with | true => some (.no n) | false => none
  | .iface t (.agg a) => match a.toList with
    | [.int .i64 n, .int .i64 i] => match Nat.beq t 50 with | true => some (.at n i) | false => none
    | _ => none
  | _ => none
def erOf : AV → Option Er
  | .v x => erV x
  | _ => none
def toPl : Er → Pl.Er
  | .ok => none
  | .no n => some (n, none)
  | .at n i => some (n, some i)
/-- What Plain answers. -/
def plainQ (e : Er) (n : Int) : Bool := Pl.plainE (toPl e) n
def plainM : List AV → Option (AV × List Blk)
  | [x, .v (.int .i64 n)] => match erOf x with | some e => some (.v (.bool (plainQ e n)), []) | none => none
  | _ => none
theorem erOf_rep {S : Sto} {x : AV} {u : Value} {e : Er} (h : erOf x = some e) (r : RepV S x u) : u = Pl.errV (toPl e) := by
  unfold erOf at h
  split at h
  · rename_i x
    have hu : u = x := by cases r; rfl
    subst hu
    clear r
    unfold erV at h
    split at h
    · obtain rfl := Option.some.inj h
      rfl
    · rename_i t n
      split at h
      · rename_i ht
        obtain rfl := Nat.eq_of_beq_eq_true ht
        obtain rfl := Option.some.inj h
        rfl
      · cases h
    · rename_i t a
      split at h
      · rename_i n i ha
        split at h
        · rename_i ht
          obtain rfl := Nat.eq_of_beq_eq_true ht
          obtain rfl := Option.some.inj h
          obtain rfl : a = #[.int .i64 n, .int .i64 i] := by rw [← ha]
          rfl
        · cases h
      · cases h
    · cases h
  · cases h
theorem hGlob : ∀ w w', Glob w → Below w.heap.size w w' → Glob w' := fun w w' h b => h.below b
theorem plain_models : Models Tryd.prog Glob 9 plainM := by
  refine models_of_calls hGlob fun S w bs vs r Hr hvs hg e => ?_
  unfold plainM at e
  split at e
  · rename_i x n
    split at e
    · rename_i er he
      simp only [Option.some.injEq, Prod.mk.injEq] at e
      obtain ⟨rfl, rfl⟩ := e
      obtain ⟨u, us, rfl, hx, hr⟩ := hvs.tail
      obtain ⟨v, us, rfl, hv, hr⟩ := hr.tail
      obtain rfl := hr.nil_inv
      obtain rfl := erOf_rep he hx
      cases hv
      exact ⟨_, rfl, rfl, Pl.plain_calls (toPl er) n w hg⟩
    · cases e
  · cases e
def numM : List AV → Option (AV × List Blk)
  | [x] => match erOf x with | some e => some (.v (.int .i64 (Pl.numE (toPl e))), []) | none => none
  | _ => none
def numQ (e : Er) : Int := Pl.numE (toPl e)
theorem num_models : Models Tryd.prog Glob 15 numM := by
  refine models_of_calls hGlob fun S w bs vs r Hr hvs hg e => ?_
  unfold numM at e
  split at e
  · rename_i x
    split at e
    · rename_i er he
      simp only [Option.some.injEq, Prod.mk.injEq] at e
      obtain ⟨rfl, rfl⟩ := e
      obtain ⟨u, us, rfl, hx, hr⟩ := hvs.tail
      obtain rfl := hr.nil_inv
      obtain rfl := erOf_rep he hx
      exact ⟨_, rfl, rfl, Pl.num_calls (toPl er) w⟩
    · cases e
  · cases e
end Go.Proofs.YtalkodandfjkmaaDoor.Ag
