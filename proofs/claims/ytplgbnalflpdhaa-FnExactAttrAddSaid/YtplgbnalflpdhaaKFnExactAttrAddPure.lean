/- The program's AttrAdd gives, for all attributes and every further one, what the reference's gives, leaves the attributes as they were, and gives new memory each time. (A plain statement over numbers and lists; the row behind it carries it to the program.) Conditions: none beyond the row's own. -/
import Derived.Test.YtplgbnalflpdhaaKFnExactAttrAddy1
namespace Go.Proofs.Ytplgbnalflpdhaa.Pure
open Go.RowKit Go.Proofs.Ytplgbnalflpdhaa.X Go.Proofs.YtplgbnalflpdhaaW.PrintWords Go.Proofs.YtplgbnalflpdhaaW.PrintLast Go.Proofs.YtplgbnalflpdhaaW.PrintMore Go.Proofs.Ytplgbnalflpdhaa.Y
set_option linter.unusedVariables false
set_option linter.unusedSimpArgs false
theorem attrAdd_len (l : List IA) (a : IA) : (attrAdd l a).length ≤ l.length + 1 := by
  unfold attrAdd; split
  · omega
  · simp
theorem FnExactAttrAdd (l : List LA) (a0 a1 : ByteArray) (hl : l.length ≤ maxLen ∧ ∀ x ∈ l, x.f0.size ≤ maxLen ∧ x.f1.size ≤ maxLen) (ha : a0.size ≤ maxLen ∧ a1.size ≤ maxLen) : ∃ k, laws_FnExactAttrAdd.f k l a0 a1 = some true := by
  refine Ev.rounds (g := fun k => laws_FnExactAttrAdd.f k l a0 a1) (EvP.ev ?_)
  unfold laws_FnExactAttrAdd.f
  refine EvP.bind (szAttrS_p l hl 1048576 (by omega) (by omega)) (fun r hr => EvP.ite (fun _ => EvP.some rfl) (fun hr2 => ?_))
  have htn := tot_nonneg l
  refine EvP.bindS (szAttr_p a0 a1 r (by omega) (by omega) ha.1 ha.2) (fun q hq => EvP.ite (fun _ => EvP.some rfl) (fun hq2 => ?_))
  have ht := toAttrS_ev l (by omega)
  have hs := spec_AttrAdd_ev (l.map cv) ⟨a0, a1⟩ (by rw [List.length_map]; omega) ⟨by simp only; omega, by simp only; omega⟩
  have hi := impl_AttrAdd_ev (l.map cv) ⟨a0, a1⟩ (by rw [List.length_map]; omega) ⟨by simp only; omega, by simp only; omega⟩
  have hle := attrAdd_len (l.map cv) ⟨a0, a1⟩
  have ql := eqAttrS_same (l.map cv) (by rw [List.length_map]; omega)
  have mk := markAttrS_ev (l.map cv) (by rw [List.length_map]; omega)
  rw [List.length_map] at hle mk
  generalize attrAdd (l.map cv) ⟨a0, a1⟩ = p at *
  have qp := eqAttrS_same p (by omega)
  have mp := markAttrS_ev p (by omega)
  have hp := heldAttrS_ev p.length (by omega)
  simp only [laws_toAttr.f, Option.bind_some]
  refine EvP.of (Ev.bind ht (Ev.bind hs (Ev.bind ht (Ev.bind hi (Ev.bind qp (ev_pos rfl (Ev.bind ht (Ev.bind ql (ev_pos rfl (Ev.bind mk (ev_neg (by simp only; omega) (Ev.bind qp (ev_succ ?_))))))))))))) rfl
  simp only [laws_FnExactAttrAdd.j0, laws_toAttr.f, Option.bind_some, Bool.not_true]
  refine ev_neg (by simp) (Ev.bind mp (Ev.bind hp (ev_neg (by omega) (ev_pos rfl (Ev.bind ht (Ev.bind hi (Ev.bind qp (ev_pos rfl (Ev.bind hp (ev_neg (by omega) (ev_pos rfl (Ev.now _))))))))))))

end Go.Proofs.Ytplgbnalflpdhaa.Pure
