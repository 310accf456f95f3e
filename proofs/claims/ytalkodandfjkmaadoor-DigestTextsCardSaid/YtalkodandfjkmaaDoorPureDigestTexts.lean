/- The plain statement of the law DigestTexts, proved over numbers, texts and lists. -/
import Derived.Test.YtalkodandfjkmaaDoorStDigestTexts
namespace Go.Proofs.YtalkodandfjkmaaDoor.digestTexts
open Go.RowKit Go.Proofs.YtalkodandfjkmaaDoorW.PrintWords Go.Proofs.YtalkodandfjkmaaDoorW.PrintLast Go.Proofs.YtalkodandfjkmaaDoor.Print

theorem pure : Pure := by
  intro h s O0 O1
  have e1 := flotillaref05_Parse.ev s
  have e2 := flotillaref05_Text.ev h
  have e3 : Ev (fun k => digest_Parse.f k s) (if s.size = 13 then digest_Parse.told (Dig.pars s.data.toList true 0) else (0, some 4)) := ⟨14, fun k hk => digest_Parse.spec s k (by omega)⟩
  have : Ev (fun k => flotillalaw05_DigestTexts.f k h s) true := by
    unfold flotillalaw05_DigestTexts.f
    refine Ev.bind e1 (Ev.bind e3 (Ev.val rfl (Ev.bind e2 (Ev.pos rfl ?_))))
    by_cases hs : s.size = 13
    · rw [if_pos hs, if_pos hs]
      cases hp : Dig.pars s.data.toList true 0 with
      | none => exact Ev.val (a := true) rfl (Ev.pos rfl (Ev.now _))
      | some y =>
        refine Ev.val (a := true) rfl (Ev.pos rfl (Ev.cast ?_ (Ev.now _)))
        simp [digest_Parse.told, flotillaref05_Parse.told]
    · rw [if_neg hs, if_neg hs]
      exact Ev.val (a := true) rfl (Ev.pos rfl (Ev.now _))
  exact this.rounds

end Go.Proofs.YtalkodandfjkmaaDoor.digestTexts
