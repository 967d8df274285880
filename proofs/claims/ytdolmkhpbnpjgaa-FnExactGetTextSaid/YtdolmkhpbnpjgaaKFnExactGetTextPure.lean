/- The program's GetText gives, for all bytes and every place, what the reference's gives, and leaves the bytes as they were. (A plain statement over numbers and lists; the row behind it carries it to the program.) Conditions: none beyond the row's own. -/
import Derived.Test.YtdolmkhpbnpjgaaKFnExactGetTexty1
namespace Go.Proofs.Ytdolmkhpbnpjgaa.Pure
open Go.RowKit Go.Proofs.Ytdolmkhpbnpjgaa.X Go.Proofs.YtdolmkhpbnpjgaaW.PrintWords Go.Proofs.YtdolmkhpbnpjgaaW.PrintLast Go.Proofs.YtdolmkhpbnpjgaaW.PrintMore Go.Proofs.Ytdolmkhpbnpjgaa.Y
set_option linter.unusedVariables false
set_option linter.unusedSimpArgs false
theorem FnExactGetText : laws_FnExactGetText.Pure := by
  intro l a _ hl hw ha
  have ha := wf64 ha
  have hl : l.length ≤ 140737488351232 := by omega
  refine Ev.rounds (g := fun k => laws_FnExactGetText.f k l a) ?_
  unfold laws_FnExactGetText.f
  by_cases hb : (l.length : Int) > 1048576
  · exact ev_pos hb (Ev.now _)
  · refine ev_neg hb (Ev.bind (toByteS_ev l hl) (Ev.bind (spec_GetText_ev l hl hw a ha.2) (Ev.bind (toByteS_ev l hl) (Ev.bind (impl_GetText_ev l hl hw a ha.2) ?_))))
    refine ev_pos rfl (ev_pos rfl (ev_succ ?_))
    simp only [laws_FnExactGetText.j0, bne_self_eq_false, Bool.false_eq_true, if_false]
    exact Ev.bind (toByteS_ev l hl) (Ev.bind (eqByteS_same l (by omega)) (ev_pos rfl (Ev.now _)))

end Go.Proofs.Ytdolmkhpbnpjgaa.Pure
