/- The program's GetNum gives, for all bytes and every place, what the reference's gives, and leaves the bytes as they were. (A plain statement over numbers and lists; the row behind it carries it to the program.) Conditions: none beyond the row's own. -/
import Derived.Test.YtplgbnalflpdhaaKFnExactGetNumy1
namespace Go.Proofs.Ytplgbnalflpdhaa.Pure
open Go.RowKit Go.Proofs.Ytplgbnalflpdhaa.X Go.Proofs.YtplgbnalflpdhaaW.PrintWords Go.Proofs.YtplgbnalflpdhaaW.PrintLast Go.Proofs.YtplgbnalflpdhaaW.PrintMore Go.Proofs.Ytplgbnalflpdhaa.Y
set_option linter.unusedVariables false
set_option linter.unusedSimpArgs false
theorem FnExactGetNum : laws_FnExactGetNum.Pure := by
  intro l a _ hl hw ha
  have ha := wf64 ha
  have hl : l.length ≤ 140737488351232 := by omega
  refine Ev.rounds (g := fun k => laws_FnExactGetNum.f k l a) ?_
  unfold laws_FnExactGetNum.f
  by_cases hb : (l.length : Int) > 1048576
  · exact ev_pos hb (Ev.now _)
  · refine ev_neg hb (Ev.bind (toByteS_ev l hl) (Ev.bind (spec_GetNum_ev l hl hw a) (Ev.bind (toByteS_ev l hl) (Ev.bind (impl_GetNum_ev l hl hw a ha.2) ?_))))
    refine ev_pos rfl (ev_pos rfl (Ev.step (f := fun k => (laws_toByteS.f k l).bind fun t123 => ((laws_eqByteS.f k l t123).bind fun t126 => (if t126 = true then (some true) else (some false)))) (fun k => ?_) ?_))
    · simp [laws_FnExactGetNum.j0]
    · exact Ev.bind (toByteS_ev l hl) (Ev.bind (eqByteS_same l (by omega)) (Ev.now _))

end Go.Proofs.Ytplgbnalflpdhaa.Pure
