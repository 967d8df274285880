/- The program's LowerText gives, for every text, what the reference's gives. (A plain statement over numbers and lists; the row behind it carries it to the program.) Conditions: none beyond the row's own. -/
import Derived.Test.YtplgbnalflpdhaaKFnExactLowerTexty1
namespace Go.Proofs.Ytplgbnalflpdhaa.Pure
open Go.RowKit Go.Proofs.Ytplgbnalflpdhaa.X Go.Proofs.YtplgbnalflpdhaaW.PrintWords Go.Proofs.YtplgbnalflpdhaaW.PrintLast Go.Proofs.YtplgbnalflpdhaaW.PrintMore Go.Proofs.Ytplgbnalflpdhaa.Y
set_option linter.unusedVariables false
set_option linter.unusedSimpArgs false
theorem FnExactLowerText : laws_FnExactLowerText.Pure := by
  intro s _
  refine Ev.rounds (g := fun k => laws_FnExactLowerText.f k s) ?_
  unfold laws_FnExactLowerText.f
  by_cases hb : (s.size : Int) > 1048576
  · exact ev_pos hb (Ev.now _)
  · refine ev_neg hb (Ev.bind (spec_LowerText_ev s (by omega)) ?_)
    simp only [impl_LowerText_eq s (by omega), Option.bind_some]
    exact ev_pos (by simp) (Ev.now _)

end Go.Proofs.Ytplgbnalflpdhaa.Pure
