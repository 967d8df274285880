/- The program's TextOf gives, for every tree and place, what the reference's gives, and leaves the tree as it was. (A plain statement over numbers and lists; the row behind it carries it to the program.) Conditions: none beyond the row's own. -/
import Derived.Test.YtgneacekgbjkkaaKFnExactTextOfy1
namespace Go.Proofs.Ytgneacekgbjkkaa.Pure
open Go.RowKit Go.Proofs.Ytgneacekgbjkkaa.X Go.Proofs.YtgneacekgbjkkaaW.PrintWords Go.Proofs.YtgneacekgbjkkaaW.PrintLast Go.Proofs.YtgneacekgbjkkaaW.PrintMore Go.Proofs.Ytgneacekgbjkkaa.Y
set_option linter.unusedVariables false
set_option linter.unusedSimpArgs false
theorem FnExactTextOf (l : List LN) (a : Int) (h : l.length ≤ maxLen ∧ ∀ x ∈ l, (Lit.int .i64 x.f0).wf = true ∧ x.f1.size ≤ maxLen ∧ (x.f2.length ≤ maxLen ∧ ∀ a ∈ x.f2, a.f0.size ≤ maxLen ∧ a.f1.size ≤ maxLen) ∧ x.f3.size ≤ maxLen ∧ (Lit.int .i64 x.f4).wf = true ∧ (x.f5.length ≤ maxLen ∧ ∀ k ∈ x.f5, (Lit.int .i64 k).wf = true)) (ha : (Lit.int .i64 a).wf = true) : ∃ k, laws_FnExactTextOf.f k l a = some true := by
  have hl : LTok l := ⟨h.1, fun x hx => by
    obtain ⟨a0, a1, a2, a3, a4, a5, a5'⟩ := h.2 x hx
    exact ⟨wf64 a0, a1, a2, a3, wf64 a4, a5, fun k hk => wf64 (a5' k hk)⟩⟩
  refine Ev.rounds (g := fun k => laws_FnExactTextOf.f k l a) (EvP.ev ?_)
  unfold laws_FnExactTextOf.f
  refine EvP.bind (szTree_p l hl 1048576 (by omega) (by omega)) (fun r hr => EvP.ite (fun _ => EvP.some rfl) (fun c => ?_))
  have hw0 := wtT_nonneg l
  have hlen : l.length ≤ 1048576 := by omega
  have hw : wtT l ≤ 1048576 := by omega
  have ht := toTree_ev l hlen (light_cv hlen hw)
  have hs := small_cv hl hlen hw
  have he := eqTree_same (l.map cvN) (by rw [List.length_map]; omega) (small_eq hs)
  obtain ⟨u, hu, hv, _⟩ := TextOf_both hs a (wf64 ha)
  exact EvP.of (Ev.bind ht (Ev.bind hu (Ev.bind ht (Ev.bind hv (ev_pos rfl (Ev.bind ht (Ev.bind he (ev_pos rfl (Ev.now _))))))))) rfl

end Go.Proofs.Ytgneacekgbjkkaa.Pure
