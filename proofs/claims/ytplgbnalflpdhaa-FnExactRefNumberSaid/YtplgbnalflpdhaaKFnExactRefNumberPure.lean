/- The program's RefNumber gives, for every number, what the reference's gives. (A plain statement over numbers and lists; the row behind it carries it to the program.) Conditions: none beyond the row's own. -/
import Derived.Test.YtplgbnalflpdhaaKFnExactRefNumbery1
namespace Go.Proofs.Ytplgbnalflpdhaa.Pure
open Go.RowKit Go.Proofs.Ytplgbnalflpdhaa.X Go.Proofs.YtplgbnalflpdhaaW.PrintWords Go.Proofs.YtplgbnalflpdhaaW.PrintLast Go.Proofs.YtplgbnalflpdhaaW.PrintMore Go.Proofs.Ytplgbnalflpdhaa.Y
set_option linter.unusedVariables false
set_option linter.unusedSimpArgs false
theorem FnExactRefNumber : laws_FnExactRefNumber.Pure := by
  intro x _
  refine Ev.rounds (g := fun k => laws_FnExactRefNumber.f k x) ?_
  unfold laws_FnExactRefNumber.f
  refine Ev.bind (spec_RefNumber_ev x) ?_
  simp only [impl_RefNumber_eq, Option.bind_some]
  exact ev_pos True.intro (Ev.now _)

end Go.Proofs.Ytplgbnalflpdhaa.Pure
