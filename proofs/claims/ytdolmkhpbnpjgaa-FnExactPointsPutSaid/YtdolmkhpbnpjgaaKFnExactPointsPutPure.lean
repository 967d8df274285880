/- The program's PointsPut gives, for every list, the bytes that the reference gives, leaves the list as it was, and gives new memory each time. (A plain statement over numbers and lists; the row behind it carries it to the program.) Conditions: none beyond the row's own. -/
import Derived.Test.YtdolmkhpbnpjgaaKFnExactPointsPuty1
namespace Go.Proofs.Ytdolmkhpbnpjgaa.Pure
open Go.RowKit Go.Proofs.Ytdolmkhpbnpjgaa.X Go.Proofs.YtdolmkhpbnpjgaaW.PrintWords Go.Proofs.YtdolmkhpbnpjgaaW.PrintLast Go.Proofs.YtdolmkhpbnpjgaaW.PrintMore Go.Proofs.Ytdolmkhpbnpjgaa.Y
set_option linter.unusedVariables false
set_option linter.unusedSimpArgs false
theorem FnExactPointsPut : laws_FnExactPointsPut.Pure := by
  intro l _ hl _
  refine Ev.rounds (g := fun k => laws_FnExactPointsPut.f k l) ?_
  unfold laws_FnExactPointsPut.f
  by_cases hb : (l.length : Int) > 1048576
  · exact ev_pos hb (Ev.now _)
  have ht := toIntS_ev l (by omega)
  have hi := impl_PointsPut_ev l
  have hs := spec_PointsPut_ev l
  have hlen : (pointsPut l).length ≤ 12000 := by
    unfold pointsPut; split
    · simp
    · have := putAll_len l; omega
  have e : (if (l.length : Int) > 3000 then [] else putAll l) = pointsPut l := rfl
  rw [e] at hs
  generalize pointsPut l = p at *
  refine ev_neg hb (Ev.bind ht (Ev.bind hs (Ev.bind ht (Ev.bind hi (Ev.bind (eqByteS_same p (by omega)) (ev_pos rfl (Ev.bind ht (Ev.bind (eqIntS_same l (by omega)) (ev_pos rfl (Ev.bind (markIntS_ev l 1 (by omega) (by omega)) ?_))))))))))
  refine ev_neg (by omega) (Ev.bind (eqByteS_same p (by omega)) ?_)
  refine ev_succ ?_
  simp only [laws_FnExactPointsPut.j0, Bool.not_true, Bool.false_eq_true, if_false]
  refine Ev.bind (markByteS_ev p 1 (by omega) (by omega)) (Ev.bind (heldByteS_ev p.length 1 (by omega) (by omega)) ?_)
  refine ev_neg (by omega) (ev_pos rfl (Ev.bind ht (Ev.bind hi (Ev.bind (eqByteS_same p (by omega)) (ev_pos rfl (Ev.bind (heldByteS_ev p.length 1 (by omega) (by omega)) ?_))))))
  exact ev_neg (by omega) (ev_pos rfl (Ev.now _))

end Go.Proofs.Ytdolmkhpbnpjgaa.Pure
