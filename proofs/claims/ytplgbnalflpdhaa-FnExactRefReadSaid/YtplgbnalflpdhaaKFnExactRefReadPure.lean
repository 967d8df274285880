/- The program's RefRead gives, for all points and every place, what the reference's gives, leaves the points as they were, and gives new memory each time. (A plain statement over numbers and lists; the row behind it carries it to the program.) Conditions: none beyond the row's own. -/
import Derived.Test.YtplgbnalflpdhaaKFnExactRefReady1
namespace Go.Proofs.Ytplgbnalflpdhaa.Pure
open Go.RowKit Go.Proofs.Ytplgbnalflpdhaa.X Go.Proofs.YtplgbnalflpdhaaW.PrintWords Go.Proofs.YtplgbnalflpdhaaW.PrintLast Go.Proofs.YtplgbnalflpdhaaW.PrintMore Go.Proofs.Ytplgbnalflpdhaa.Y
set_option linter.unusedVariables false
set_option linter.unusedSimpArgs false
theorem FnExactRefRead : laws_FnExactRefRead.Pure := by
  intro l a v _ hl _ _
  refine Ev.rounds (g := fun k => laws_FnExactRefRead.f k l a v) ?_
  unfold laws_FnExactRefRead.f
  by_cases hb : (l.length : Int) > 1048576
  · exact ev_pos hb (Ev.now _)
  have ht := toIntS_ev l (by omega)
  have hi := impl_RefRead_ev l a v
  have hs := spec_RefRead_ev l a v
  have hlen : (refRead l a v).1.length ≤ 1 := by
    unfold refRead; split
    · simp
    · split <;> simp
  generalize refRead l a v = p at *
  refine ev_neg hb (Ev.bind ht (Ev.bind hs (Ev.bind ht (Ev.bind hi (Ev.bind (eqIntS_same p.1 (by omega)) (ev_pos rfl (ev_succ ?_)))))))
  simp only [laws_FnExactRefRead.j0, bne_self_eq_false]
  refine ev_neg (by simp) (Ev.bind ht (Ev.bind (eqIntS_same l (by omega)) (ev_pos rfl (Ev.bind (markIntS_ev l 1 (by omega) (by omega)) (ev_neg (by simp only; omega) (Ev.bind (eqIntS_same p.1 (by omega)) (ev_pos rfl (ev_succ ?_))))))))
  simp only [laws_FnExactRefRead.j1]
  refine ev_neg (by simp) (Ev.bind (markIntS_ev p.1 1 (by omega) (by omega)) (Ev.bind (heldIntS_ev p.1.length 1 (by omega) (by omega)) (ev_neg (by omega) (ev_pos rfl (Ev.bind ht (Ev.bind hi (Ev.bind (eqIntS_same p.1 (by omega)) (ev_pos rfl (ev_succ ?_)))))))))
  simp only [laws_FnExactRefRead.j2, bne_self_eq_false]
  exact ev_neg (by simp) (Ev.bind (heldIntS_ev p.1.length 1 (by omega) (by omega)) (ev_neg (by omega) (ev_pos rfl (Ev.now _))))

end Go.Proofs.Ytplgbnalflpdhaa.Pure
