/- The program's AttrOf gives, for all attributes and every name, what the reference's gives, and leaves the attributes as they were. (A plain statement over numbers and lists; the row behind it carries it to the program.) Conditions: none beyond the row's own. -/
import Derived.Test.YtplgbnalflpdhaaKFnExactAttrOfy1
namespace Go.Proofs.Ytplgbnalflpdhaa.Pure
open Go.RowKit Go.Proofs.Ytplgbnalflpdhaa.X Go.Proofs.YtplgbnalflpdhaaW.PrintWords Go.Proofs.YtplgbnalflpdhaaW.PrintLast Go.Proofs.YtplgbnalflpdhaaW.PrintMore Go.Proofs.Ytplgbnalflpdhaa.Y
set_option linter.unusedVariables false
set_option linter.unusedSimpArgs false
theorem FnExactAttrOf (l : List LA) (a : ByteArray) (hl : l.length ≤ maxLen ∧ ∀ x ∈ l, x.f0.size ≤ maxLen ∧ x.f1.size ≤ maxLen) (_ : a.size ≤ 140737488351232) : ∃ k, laws_FnExactAttrOf.f k l a = some true := by
  refine Ev.rounds (g := fun k => laws_FnExactAttrOf.f k l a) (EvP.ev ?_)
  unfold laws_FnExactAttrOf.f
  refine EvP.ite (fun _ => EvP.some rfl) (fun hb => EvP.bind (szAttrS_p l hl 1048576 (by omega) (by omega)) (fun r hr => EvP.ite (fun _ => EvP.some rfl) (fun hr2 => ?_)))
  have htn := tot_nonneg l
  have hlen : l.length ≤ 1048576 := by omega
  have ht := toAttrS_ev l hlen
  have hs := spec_AttrOf_ev (l.map cv) a (by simpa using hlen)
  have hi := impl_AttrOf_ev (l.map cv) a (by simpa using hlen)
  have hq := eqAttrS_same (l.map cv) (by rw [List.length_map]; omega)
  refine EvP.of (Ev.bind ht (Ev.bind hs (Ev.bind ht (Ev.bind hi (ev_pos rfl (ev_succ ?_)))))) rfl
  simp only [laws_FnExactAttrOf.j0, bne_self_eq_false]
  exact ev_neg (by simp) (Ev.bind ht (Ev.bind hq (ev_pos rfl (Ev.now _))))

end Go.Proofs.Ytplgbnalflpdhaa.Pure
