/- The program's NameOk gives, for every text, what the reference's gives. (A plain statement over numbers and lists; the row behind it carries it to the program.) Conditions: none beyond the row's own. -/
import Derived.Test.YtplgbnalflpdhaaKFnExactNameOky1
namespace Go.Proofs.Ytplgbnalflpdhaa.Pure
open Go.RowKit Go.Proofs.Ytplgbnalflpdhaa.X Go.Proofs.YtplgbnalflpdhaaW.PrintWords Go.Proofs.YtplgbnalflpdhaaW.PrintLast Go.Proofs.YtplgbnalflpdhaaW.PrintMore Go.Proofs.Ytplgbnalflpdhaa.Y
set_option linter.unusedVariables false
set_option linter.unusedSimpArgs false
theorem FnExactNameOk : laws_FnExactNameOk.Pure := by
  intro s hs
  refine Ev.rounds (g := fun k => laws_FnExactNameOk.f k s) ?_
  unfold laws_FnExactNameOk.f
  by_cases hb : (s.size : Int) > 1048576
  · exact ev_pos hb (Ev.now _)
  · exact ev_neg hb (Ev.bind (spec_NameOk_ev s (by omega)) (Ev.bind (impl_NameOk_ev s (by omega)) (ev_neg (by simp) (Ev.now _))))

end Go.Proofs.Ytplgbnalflpdhaa.Pure
