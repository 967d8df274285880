/- The program's UtfRead gives, for all bytes, the points that the reference gives, leaves the bytes as they were, and gives new memory each time. (A plain statement over numbers and lists; the row behind it carries it to the program.) Conditions: none beyond the row's own. -/
import Derived.Test.YtplgbnalflpdhaaKFnExactUtfReady1
namespace Go.Proofs.Ytplgbnalflpdhaa.Pure
open Go.RowKit Go.Proofs.Ytplgbnalflpdhaa.X Go.Proofs.YtplgbnalflpdhaaW.PrintWords Go.Proofs.YtplgbnalflpdhaaW.PrintLast Go.Proofs.YtplgbnalflpdhaaW.PrintMore Go.Proofs.Ytplgbnalflpdhaa.Y
set_option linter.unusedVariables false
set_option linter.unusedSimpArgs false
theorem FnExactUtfRead : laws_FnExactUtfRead.Pure := by
  intro l _ hl hw
  refine Ev.rounds (g := fun k => laws_FnExactUtfRead.f k l) ?_
  unfold laws_FnExactUtfRead.f
  by_cases hb : (l.length : Int) > 1048576
  · exact ev_pos hb (Ev.now _)
  have ht := toByteS_ev l (by omega)
  have hi := impl_UtfRead_ev l hw
  have hs := spec_UtfRead_ev l hw
  have hlen := (utfRead_len l).1
  generalize utfRead l = p at *
  refine ev_neg hb (Ev.bind ht (Ev.bind hs (Ev.bind ht (Ev.bind hi (Ev.bind (eqIntS_same p (by omega)) (ev_pos rfl (Ev.bind ht (Ev.bind (eqByteS_same l (by omega)) (ev_pos rfl (Ev.bind (markByteS_ev l 1 (by omega) (by omega)) ?_))))))))))
  refine ev_neg (by simp only; omega) (Ev.bind (eqIntS_same p (by omega)) (ev_succ ?_))
  simp only [laws_FnExactUtfRead.j0, Bool.not_true, Bool.false_eq_true, if_false]
  refine Ev.bind (markIntS_ev p 1 (by omega) (by omega)) (Ev.bind (heldIntS_ev p.length 1 (by omega) (by omega)) ?_)
  refine ev_neg (by omega) (ev_pos rfl (Ev.bind ht (Ev.bind hi (Ev.bind (eqIntS_same p (by omega)) (ev_pos rfl (Ev.bind (heldIntS_ev p.length 1 (by omega) (by omega)) ?_))))))
  exact ev_neg (by omega) (ev_pos rfl (Ev.now _))

end Go.Proofs.Ytplgbnalflpdhaa.Pure
