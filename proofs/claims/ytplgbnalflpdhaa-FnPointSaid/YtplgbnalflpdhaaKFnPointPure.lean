/- A drawn point is read from its bytes as it was, but the mark alone; a number that is none is put as the stand-in. (A plain statement over numbers and lists; the row behind it carries it to the program.) Conditions: none beyond the row's own. -/
import Derived.Test.YtplgbnalflpdhaaKFnPointy1
namespace Go.Proofs.Ytplgbnalflpdhaa.Pure
open Go.RowKit Go.Proofs.Ytplgbnalflpdhaa.X Go.Proofs.YtplgbnalflpdhaaW.PrintWords Go.Proofs.YtplgbnalflpdhaaW.PrintLast Go.Proofs.YtplgbnalflpdhaaW.PrintMore Go.Proofs.Ytplgbnalflpdhaa.Y
set_option linter.unusedVariables false
set_option linter.unusedSimpArgs false
theorem utfRead65 (x : Int) : utfRead (65 :: pointPut x) = [65, point x] := by
  have hl := pointPut_len x
  unfold utfRead
  rw [if_neg (by simp only [List.length_cons]; omega)]
  have hu : unBom (65 :: pointPut x) = 65 :: pointPut x := by
    unfold unBom; rw [if_neg]
    intro g
    have := congrArg (fun l => l.head?) g
    simp at this
  rw [hu]
  have e1 := urAll_utf8 65 (pointPut x) (by decide)
  have e2 : utf8 65 ++ pointPut x = 65 :: pointPut x := rfl
  rw [e2] at e1
  rw [e1]
  have e3 := urAll_utf8 (point x) [] (pointOk_point x)
  rw [List.append_nil] at e3
  show 65 :: urAll (utf8 (point x)) = _
  rw [e3]
  simp [urAll, ur]
theorem wf65 (x : Int) : ∀ y ∈ (65 :: pointPut x), (Lit.int .u8 y).wf = true := by
  intro y hy
  rcases List.mem_cons.1 hy with rfl | hy
  · decide
  · exact wf_of8 (utf8_bytes (point_range x).1 (point_range x).2 y hy)
theorem FnPoint : laws_FnPoint.Pure := by
  intro l _ hl hw
  refine Ev.rounds (g := fun k => laws_FnPoint.f k l) ?_
  refine EvP.ev ?_
  unfold laws_FnPoint.f laws_big.f
  simp only [Option.bind_some, decide_eq_true_eq]
  refine EvP.ite (fun _ => EvP.some rfl) (fun hb => ?_)
  have hl : l.length ≤ 1048576 := by omega
  refine EvP.bind (P := fun x => -1 ≤ x ∧ x ≤ 1200000) (by obtain ⟨v, e, h⟩ := DrawPointPut_ok l hl; exact ⟨v, e, h⟩) (fun x hx => ?_)
  refine EvP.bind (EvP.of (impl_PointPut_ev x) rfl) (fun b hb => ?_)
  subst hb
  have hlen := pointPut_len x
  refine EvP.pos (by simp only [List.length_cons, List.length_nil]; omega) ?_
  simp only [List.cons_append, List.nil_append]
  refine EvP.bind (EvP.of (impl_UtfRead_ev _ (wf65 x)) rfl) (fun g hg => ?_)
  subst hg
  rw [utfRead65]
  have hok : utfOk (65 :: pointPut x) = true := by
    unfold utfOk
    rw [utfRead65, decide_eq_true (by simp only [List.length_cons]; omega), Bool.true_and, decide_eq_true_eq]
    unfold pointsPut
    rw [if_neg (by simp)]
    simp only [Y.putAll, List.flatMap_cons, List.flatMap_nil, List.append_nil]
    show utf8 (point 65) ++ utf8 (point (point x)) = _
    rw [point_of (pointOk_point x)]; rfl
  have r0 : rd [65, point x] 0 = 65 := rfl
  have r1 : rd [65, point x] 1 = point x := rfl
  have hU := impl_UtfOk_ev (65 :: pointPut x) (wf65 x)
  rw [hok] at hU
  simp only [impl_PointOk_eq, spec_PointOk_eq, Option.bind_some, r0, r1]
  refine EvP.ite (fun hp => ?_) (fun hp => ?_)
  · refine EvP.pos (by simp) (EvP.pos (by simp) (EvP.pos (by simp) (EvP.pos (by simp) (EvP.pos (by simp) (EvP.pos (point_of hp) (EvP.pos (by omega) (EvP.pos (by omega) (EvP.pos (by simp only [List.length_cons, List.length_nil]; omega) ?_))))))))
    exact EvP.bind (EvP.of hU rfl) (fun t ht => EvP.some ht.symm)
  · refine EvP.pos (by simp) (EvP.pos (by simp) (EvP.pos (by simp) (EvP.pos (by simp) (EvP.pos (by simp) (EvP.pos (by unfold point; rw [if_neg hp]) (EvP.pos (by omega) (EvP.pos (by omega) (EvP.pos (by simp only [List.length_cons, List.length_nil]; omega) ?_))))))))
    exact EvP.bind (EvP.of hU rfl) (fun t ht => EvP.some ht.symm)

end Go.Proofs.Ytplgbnalflpdhaa.Pure
