/- The program's PutText gives, for every text, the bytes that the reference gives, as new memory each time. (A plain statement over numbers and lists; the row behind it carries it to the program.) Conditions: none beyond the row's own. -/
import Derived.Test.YtplgbnalflpdhaaKFnExactPutTexty1
namespace Go.Proofs.Ytplgbnalflpdhaa.Pure
open Go.RowKit Go.Proofs.Ytplgbnalflpdhaa.X Go.Proofs.YtplgbnalflpdhaaW.PrintWords Go.Proofs.YtplgbnalflpdhaaW.PrintLast Go.Proofs.YtplgbnalflpdhaaW.PrintMore Go.Proofs.Ytplgbnalflpdhaa.Y
set_option linter.unusedVariables false
set_option linter.unusedSimpArgs false
theorem FnExactPutText : laws_FnExactPutText.Pure := by
  intro s _
  refine Ev.rounds (g := fun k => laws_FnExactPutText.f k s) ?_
  unfold laws_FnExactPutText.f
  by_cases hb : (s.size : Int) > 1048576
  · exact ev_pos hb (Ev.now _)
  have hi := impl_PutText_ev s (by omega)
  have hs := spec_PutText_ev s (by omega)
  have hlen := putText_len s
  generalize putText s = l at *
  refine ev_neg hb (Ev.bind hs (Ev.bind hi (Ev.bind (eqByteS_same l (by omega)) ?_)))
  refine ev_pos rfl (Ev.bind (markByteS_ev l 1 (by omega) (by omega)) (Ev.bind (heldByteS_ev l.length 1 (by omega) (by omega)) ?_))
  refine ev_neg (by omega) (ev_pos rfl (Ev.bind hi (Ev.bind (eqByteS_same l (by omega)) (ev_pos rfl (Ev.bind (heldByteS_ev l.length 1 (by omega) (by omega)) ?_)))))
  exact ev_neg (by omega) (ev_pos rfl (Ev.now _))

end Go.Proofs.Ytplgbnalflpdhaa.Pure
