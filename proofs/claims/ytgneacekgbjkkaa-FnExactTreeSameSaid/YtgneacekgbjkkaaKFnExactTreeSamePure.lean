/- The program's TreeSame gives, for every two trees, what the reference's gives, and leaves the trees as they were. (A plain statement over numbers and lists; the row behind it carries it to the program.) Conditions: none beyond the row's own. -/
import Derived.Test.YtgneacekgbjkkaaKFnExactTreeSamey1
namespace Go.Proofs.Ytgneacekgbjkkaa.Pure
open Go.RowKit Go.Proofs.Ytgneacekgbjkkaa.X Go.Proofs.YtgneacekgbjkkaaW.PrintWords Go.Proofs.YtgneacekgbjkkaaW.PrintLast Go.Proofs.YtgneacekgbjkkaaW.PrintMore Go.Proofs.Ytgneacekgbjkkaa.Y
set_option linter.unusedVariables false
set_option linter.unusedSimpArgs false
theorem FnExactTreeSame (l m : List LN) (h : l.length ≤ maxLen ∧ ∀ x ∈ l, (Lit.int .i64 x.f0).wf = true ∧ x.f1.size ≤ maxLen ∧ (x.f2.length ≤ maxLen ∧ ∀ a ∈ x.f2, a.f0.size ≤ maxLen ∧ a.f1.size ≤ maxLen) ∧ x.f3.size ≤ maxLen ∧ (Lit.int .i64 x.f4).wf = true ∧ (x.f5.length ≤ maxLen ∧ ∀ k ∈ x.f5, (Lit.int .i64 k).wf = true)) (h' : m.length ≤ maxLen ∧ ∀ x ∈ m, (Lit.int .i64 x.f0).wf = true ∧ x.f1.size ≤ maxLen ∧ (x.f2.length ≤ maxLen ∧ ∀ a ∈ x.f2, a.f0.size ≤ maxLen ∧ a.f1.size ≤ maxLen) ∧ x.f3.size ≤ maxLen ∧ (Lit.int .i64 x.f4).wf = true ∧ (x.f5.length ≤ maxLen ∧ ∀ k ∈ x.f5, (Lit.int .i64 k).wf = true)) : ∃ k, laws_FnExactTreeSame.f k l m = some true := by
  have hl : LTok l := ⟨h.1, fun x hx => by
    obtain ⟨a0, a1, a2, a3, a4, a5, a5'⟩ := h.2 x hx
    exact ⟨wf64 a0, a1, a2, a3, wf64 a4, a5, fun k hk => wf64 (a5' k hk)⟩⟩
  have hm : LTok m := ⟨h'.1, fun x hx => by
    obtain ⟨a0, a1, a2, a3, a4, a5, a5'⟩ := h'.2 x hx
    exact ⟨wf64 a0, a1, a2, a3, wf64 a4, a5, fun k hk => wf64 (a5' k hk)⟩⟩
  refine Ev.rounds (g := fun k => laws_FnExactTreeSame.f k l m) (EvP.ev ?_)
  unfold laws_FnExactTreeSame.f
  refine EvP.bind (szTree_p l hl 1048576 (by omega) (by omega)) (fun r hr => EvP.ite (fun _ => EvP.some rfl) (fun c => ?_))
  have hw0 := wtT_nonneg l
  have hw1 := wtT_nonneg m
  refine EvP.bind (szTree_p m hm r (by omega) (by omega)) (fun r2 hr2 => EvP.ite (fun _ => EvP.some rfl) (fun c2 => ?_))
  have hlen : l.length ≤ 1048576 := by omega
  have hw : wtT l ≤ 1048576 := by omega
  have hlen' : m.length ≤ 1048576 := by omega
  have hw' : wtT m ≤ 1048576 := by omega
  have ta := toTree_ev l hlen (light_cv hlen hw)
  have hs := small_cv hl hlen hw
  have ea := eqTree_same (l.map cvN) (by rw [List.length_map]; omega) (small_eq hs)
  have tb := toTree_ev m hlen' (light_cv hlen' hw')
  have ht := small_cv hm hlen' hw'
  have eb := eqTree_same (m.map cvN) (by rw [List.length_map]; omega) (small_eq ht)
  obtain ⟨u, hu, hv⟩ := TreeSame_both hs ht
  exact EvP.of (Ev.bind ta (Ev.bind tb (Ev.bind hu (Ev.bind hv (ev_pos rfl (Ev.bind ea (ev_pos rfl (Ev.bind eb (ev_pos rfl (Ev.now _))))))))) ) rfl

end Go.Proofs.Ytgneacekgbjkkaa.Pure
