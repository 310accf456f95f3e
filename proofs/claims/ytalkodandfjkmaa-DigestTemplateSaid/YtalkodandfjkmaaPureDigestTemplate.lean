/- Of any object, with texts and labels that aren't too long, the digest of its template by the program is the one of the document; the object stays as it was. -/
import Derived.Test.YtalkodandfjkmaaStDigestTemplate
namespace Go.Proofs.Ytalkodandfjkmaa.digestTemplate
open Go.RowKit Go.Proofs.YtalkodandfjkmaaW.PrintWords Go.Proofs.YtalkodandfjkmaaW.PrintLast Go.Proofs.Ytalkodandfjkmaa.Print

theorem pure : Pure := by
  intro x0 O0
  have hl4 : x0.f4.length * 32 ≤ 140737488351232 := O0.2.2.2.2.1.1
  have ha4 : ∀ x ∈ x0.f4, x.f0.size ≤ 140737488351232 ∧ x.f1.size ≤ 140737488351232 := O0.2.2.2.2.1.2.2
  have h25 : x0.f25.length * 32 ≤ 140737488351232 := O0.2.2.2.2.2.2.2.2.2.2.2.2.2.2.2.2.2.2.2.2.2.2.2.2.2.1.1
  obtain ⟨b, hb, hk⟩ := flotillalaw05_long.ev x0.f0 x0.f1 x0.f2 x0.f3 x0.f4 x0.f5.f0 x0.f5.f1 x0.f6 x0.f7 x0.f8 x0.f9 x0.f10 x0.f11 x0.f12 x0.f13 x0.f14 x0.f15 x0.f16.f0 x0.f16.f1 x0.f17 x0.f18 x0.f19 x0.f20 x0.f21 x0.f22 x0.f23 x0.f24 x0.f25 x0.f26 x0.f27 x0.f28 x0.f29
  have : Ev (fun k => flotillalaw05_DigestTemplate.f k x0.f0 x0.f1 x0.f2 x0.f3 x0.f4 x0.f5.f0 x0.f5.f1 x0.f6 x0.f7 x0.f8 x0.f9 x0.f10 x0.f11 x0.f12 x0.f13 x0.f14 x0.f15 x0.f16.f0 x0.f16.f1 x0.f17 x0.f18 x0.f19 x0.f20 x0.f21 x0.f22 x0.f23 x0.f24 x0.f25 x0.f26 x0.f27 x0.f28 x0.f29) true := by
    unfold flotillalaw05_DigestTemplate.f
    refine Ev.bind hb ?_
    cases b with
    | true => exact Ev.pos (rfl : true = true) (Ev.now _)
    | false =>
      obtain ⟨k1, k2, k3⟩ := hk rfl
      refine Ev.neg (by decide) (Ev.bind (flotillakit_FullLabels.ev _ (by omega)) (Ev.bind (flotillakit_FullLabels.ev _ (by omega)) (Ev.val (if_pos ⟨by omega, ha4⟩) (Ev.bind (?_ : Ev _ (Go.Proofs.Ytalkodandfjkmaa.Dig.fnvL 14695981039346656037 (Go.Proofs.Ytalkodandfjkmaa.Dig.itsB (Go.Proofs.Ytalkodandfjkmaa.Dig.tmplIts x0.f17 x0.f16.f0 x0.f16.f1 x0.f18 x0.f19 (x0.f4.map fun x => (x.f0, x.f1)) ++ Go.Proofs.Ytalkodandfjkmaa.Dig.labIts (x0.f4.map fun x => (x.f0, x.f1)))))) (Ev.bind (flotillaref0_SameLabels.ev _ (by omega)) (Ev.bind (flotillaref0_SameLabels.ev _ (by omega)) (Ev.bind (flotillakit_KeptFullLabels.ev _ (by omega)) (Ev.bind (flotillakit_KeptFullLabels.ev _ (by omega)) (Ev.congr (fun _ => if_pos ?_) (Ev.now _))))))))))
      · unfold flotillaref05_Template.f
        refine Ev.bind (flotillaref05_Bytes.ev _ _ _ _ _ _ _ _ _ _ _ _ _ _ _ _ _ _ _ _ _ _ _ _ _ _ _ _ _ _ _ _ k1 k2 k3) (flotillaref05_Of.ev _ ?_ ?_)
        · exact flotillaref05_Bytes.byte _
        · have := flotillaref05_Bytes.size x0.f17 x0.f16.f0 x0.f16.f1 x0.f18 x0.f19 x0.f4 k1 k2 k3
          omega
      · exact ⟨⟨by rw [List.length_append, flotillakit_FullLabels.marks_len], by rw [List.length_append, flotillakit_FullLabels.marks_len]⟩, ⟨List.take_left, List.take_left⟩, rfl, ⟨rfl, rfl⟩, rfl, rfl⟩
  exact this.rounds

end Go.Proofs.Ytalkodandfjkmaa.digestTemplate
