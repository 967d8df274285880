/- The program's PointPut gives, for every number, the bytes that the reference gives, as new memory each time. (A plain statement over numbers and lists; the row behind it carries it to the program.) Conditions: none beyond the row's own. -/
import Derived.Test.YtdolmkhpbnpjgaaKFnExactPointPuty1
namespace Go.Proofs.Ytdolmkhpbnpjgaa.Pure
open Go.RowKit Go.Proofs.Ytdolmkhpbnpjgaa.X Go.Proofs.YtdolmkhpbnpjgaaW.PrintWords Go.Proofs.YtdolmkhpbnpjgaaW.PrintLast Go.Proofs.YtdolmkhpbnpjgaaW.PrintMore Go.Proofs.Ytdolmkhpbnpjgaa.Y
set_option linter.unusedVariables false
set_option linter.unusedSimpArgs false
theorem FnExactPointPut : laws_FnExactPointPut.Pure := by
  intro x hx
  have hi := impl_PointPut_ev x
  have hs := spec_PointPut_eq x
  have hlen := pointPut_len x
  generalize pointPut x = l at *
  refine Ev.rounds (g := fun k => laws_FnExactPointPut.f k x) ?_
  unfold laws_FnExactPointPut.f
  refine ev_bindS hs (Ev.bind hi (Ev.bind (eqByteS_same l (by omega)) ?_))
  refine ev_pos rfl (Ev.bind (markByteS_ev l 1 (by omega) (by omega)) (Ev.bind (heldByteS_ev l.length 1 (by omega) (by omega)) ?_))
  refine ev_neg (by omega) (ev_pos rfl (Ev.bind hi (Ev.bind (eqByteS_same l (by omega)) (ev_pos rfl (Ev.bind (heldByteS_ev l.length 1 (by omega) (by omega)) ?_)))))
  exact ev_neg (by omega) (ev_pos rfl (Ev.now _))

end Go.Proofs.Ytdolmkhpbnpjgaa.Pure
