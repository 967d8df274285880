/- The program's LinesOf gives, for every list, what the reference's gives, leaves the list as it was, and gives new memory each time. (A plain statement over numbers and lists; the row behind it carries it to the program.) Conditions: none beyond the row's own. -/
import Derived.Test.YtplgbnalflpdhaaKFnExactLinesOfy1
namespace Go.Proofs.Ytplgbnalflpdhaa.Pure
open Go.RowKit Go.Proofs.Ytplgbnalflpdhaa.X Go.Proofs.YtplgbnalflpdhaaW.PrintWords Go.Proofs.YtplgbnalflpdhaaW.PrintLast Go.Proofs.YtplgbnalflpdhaaW.PrintMore Go.Proofs.Ytplgbnalflpdhaa.Y
set_option linter.unusedVariables false
set_option linter.unusedSimpArgs false
theorem FnExactLinesOf : laws_FnExactLinesOf.Pure := by
  intro l _ hl _
  refine Ev.rounds (g := fun k => laws_FnExactLinesOf.f k l) ?_
  unfold laws_FnExactLinesOf.f
  by_cases hb : (l.length : Int) > 1048576
  · exact ev_pos hb (Ev.now _)
  have ht := toIntS_ev l (by omega)
  have hs := spec_LinesOf_ev l (by omega)
  have hlen := linesR_len l
  simp only [impl_LinesOf_eq, Option.bind_some]
  generalize hp : linesR l = p at *
  refine ev_neg hb (Ev.bind ht (Ev.bind hs (Ev.bind ht ?_)))
  rw [hp]
  refine Ev.bind (eqIntS_same p (by omega)) (ev_pos rfl (Ev.bind ht (Ev.bind (eqIntS_same l (by omega)) (ev_pos rfl (Ev.bind (markIntS_ev l 1 (by omega) (by omega)) (ev_neg (by simp only; omega) (Ev.bind (eqIntS_same p (by omega)) (ev_succ ?_))))))))
  simp only [laws_FnExactLinesOf.j0, impl_LinesOf_eq, Option.bind_some]
  refine ev_neg (by simp) (Ev.bind (markIntS_ev p 1 (by omega) (by omega)) (Ev.bind (heldIntS_ev p.length 1 (by omega) (by omega)) (ev_neg (by omega) (ev_pos rfl (Ev.bind ht ?_)))))
  rw [hp]
  exact Ev.bind (eqIntS_same p (by omega)) (ev_pos rfl (Ev.bind (heldIntS_ev p.length 1 (by omega) (by omega)) (ev_neg (by omega) (ev_pos rfl (Ev.now _)))))

end Go.Proofs.Ytplgbnalflpdhaa.Pure
