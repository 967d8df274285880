/- The program's AttrsOk gives, for all attributes, what the reference's gives, and leaves the attributes as they were. (A plain statement over numbers and lists; the row behind it carries it to the program.) Conditions: none beyond the row's own. -/
import Derived.Test.YtplgbnalflpdhaaKFnExactAttrsOky1
namespace Go.Proofs.Ytplgbnalflpdhaa.Pure
open Go.RowKit Go.Proofs.Ytplgbnalflpdhaa.X Go.Proofs.YtplgbnalflpdhaaW.PrintWords Go.Proofs.YtplgbnalflpdhaaW.PrintLast Go.Proofs.YtplgbnalflpdhaaW.PrintMore Go.Proofs.Ytplgbnalflpdhaa.Y
set_option linter.unusedVariables false
set_option linter.unusedSimpArgs false
theorem FnExactAttrsOk (l : List LA) (hl : l.length ≤ maxLen ∧ ∀ x ∈ l, x.f0.size ≤ maxLen ∧ x.f1.size ≤ maxLen) : ∃ k, laws_FnExactAttrsOk.f k l = some true := by
  refine Ev.rounds (g := fun k => laws_FnExactAttrsOk.f k l) (EvP.ev ?_)
  unfold laws_FnExactAttrsOk.f
  refine EvP.bind (szAttrS_p l hl 1048576 (by omega) (by omega)) (fun r hr => EvP.ite (fun _ => EvP.some rfl) (fun hr2 => ?_))
  have htn := tot_nonneg l
  have ht := toAttrS_ev l (by omega)
  have hsz : ∀ x ∈ l.map cv, x.f0.size ≤ 1048576 ∧ x.f1.size ≤ 1048576 := by
    intro x hx
    obtain ⟨y, hy, rfl⟩ := List.mem_map.1 hx
    have := tot_size hy
    simp only [cv]; omega
  obtain ⟨u, hu, hu2⟩ := spec_AttrsOk_ev (l.map cv) hsz
  obtain ⟨v, hv, hv2⟩ := impl_AttrsOk_ev (l.map cv) hsz
  have e := bool_iff hu2 hv2
  subst e
  have hq := eqAttrS_same (l.map cv) (by rw [List.length_map]; omega)
  exact EvP.of (Ev.bind ht (Ev.bind hu (Ev.bind ht (Ev.bind hv (ev_neg (by simp) (Ev.bind ht (Ev.bind hq (ev_pos rfl (Ev.now _))))))))) rfl

end Go.Proofs.Ytplgbnalflpdhaa.Pure
