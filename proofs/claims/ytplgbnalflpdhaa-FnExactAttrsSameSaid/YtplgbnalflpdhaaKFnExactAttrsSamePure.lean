/- The program's AttrsSame gives, for all attributes, what the reference's gives, and leaves the attributes as they were. (A plain statement over numbers and lists; the row behind it carries it to the program.) Conditions: none beyond the row's own. -/
import Derived.Test.YtplgbnalflpdhaaKFnExactAttrsSamey1
namespace Go.Proofs.Ytplgbnalflpdhaa.Pure
open Go.RowKit Go.Proofs.Ytplgbnalflpdhaa.X Go.Proofs.YtplgbnalflpdhaaW.PrintWords Go.Proofs.YtplgbnalflpdhaaW.PrintLast Go.Proofs.YtplgbnalflpdhaaW.PrintMore Go.Proofs.Ytplgbnalflpdhaa.Y
set_option linter.unusedVariables false
set_option linter.unusedSimpArgs false
theorem FnExactAttrsSame (a b : List LA) (hla : a.length ≤ maxLen ∧ ∀ x ∈ a, x.f0.size ≤ maxLen ∧ x.f1.size ≤ maxLen) (hlb : b.length ≤ maxLen ∧ ∀ x ∈ b, x.f0.size ≤ maxLen ∧ x.f1.size ≤ maxLen) : ∃ k, laws_FnExactAttrsSame.f k a b = some true := by
  refine Ev.rounds (g := fun k => laws_FnExactAttrsSame.f k a b) (EvP.ev ?_)
  unfold laws_FnExactAttrsSame.f
  refine EvP.bind (szAttrS_p a hla 1048576 (by omega) (by omega)) (fun r hr => EvP.ite (fun _ => EvP.some rfl) (fun hr2 => ?_))
  have htn := tot_nonneg a
  refine EvP.bind (szAttrS_p b hlb r (by omega) (by omega)) (fun q hq => EvP.ite (fun _ => EvP.some rfl) (fun hq2 => ?_))
  have htb := tot_nonneg b
  have hta := toAttrS_ev a (by omega)
  have htb' := toAttrS_ev b (by omega)
  obtain ⟨u, hu, hu2⟩ := spec_AttrsSame_ev (a.map cv) (b.map cv) (by rw [List.length_map]; omega) (by rw [List.length_map]; omega)
  obtain ⟨v, hv, hv2⟩ := impl_AttrsSame_ev (a.map cv) (b.map cv) (by rw [List.length_map]; omega) (by rw [List.length_map]; omega)
  have e := bool_iff hu2 hv2
  subst e
  have qa := eqAttrS_same (a.map cv) (by rw [List.length_map]; omega)
  have qb := eqAttrS_same (b.map cv) (by rw [List.length_map]; omega)
  exact EvP.of (Ev.bind hta (Ev.bind htb' (Ev.bind hu (Ev.bind hta (Ev.bind htb' (Ev.bind hv (ev_neg (by simp) (Ev.bind hta (Ev.bind qa (ev_pos rfl (Ev.bind htb' (Ev.bind qb (ev_pos rfl (Ev.now _)))))))))))))) rfl

end Go.Proofs.Ytplgbnalflpdhaa.Pure
