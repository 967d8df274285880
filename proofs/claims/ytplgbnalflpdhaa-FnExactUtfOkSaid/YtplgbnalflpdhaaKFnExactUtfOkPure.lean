/- The program's UtfOk gives, for all bytes, what the reference's gives, and leaves the bytes as they were. (A plain statement over numbers and lists; the row behind it carries it to the program.) Conditions: none beyond the row's own. -/
import Derived.Test.YtplgbnalflpdhaaKFnExactUtfOky1
namespace Go.Proofs.Ytplgbnalflpdhaa.Pure
open Go.RowKit Go.Proofs.Ytplgbnalflpdhaa.X Go.Proofs.YtplgbnalflpdhaaW.PrintWords Go.Proofs.YtplgbnalflpdhaaW.PrintLast Go.Proofs.YtplgbnalflpdhaaW.PrintMore Go.Proofs.Ytplgbnalflpdhaa.Y
set_option linter.unusedVariables false
set_option linter.unusedSimpArgs false
theorem FnExactUtfOk : laws_FnExactUtfOk.Pure := by
  intro l _ hl hw
  refine Ev.rounds (g := fun k => laws_FnExactUtfOk.f k l) ?_
  unfold laws_FnExactUtfOk.f
  by_cases hb : (l.length : Int) > 1048576
  · exact ev_pos hb (Ev.now _)
  have ht := toByteS_ev l (by omega)
  refine ev_neg hb (Ev.bind ht (Ev.bind (spec_UtfOk_ev l hw) (Ev.bind ht (Ev.bind (impl_UtfOk_ev l hw) (ev_neg (by simp) (Ev.bind ht (Ev.bind (eqByteS_same l (by omega)) (ev_pos rfl (Ev.now _)))))))))

end Go.Proofs.Ytplgbnalflpdhaa.Pure
