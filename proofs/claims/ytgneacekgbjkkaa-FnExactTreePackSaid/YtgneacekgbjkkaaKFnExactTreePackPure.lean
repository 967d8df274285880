/- The program's TreePack gives, for every tree, what the reference's gives, leaves the tree as it was, and gives new memory each time. (A plain statement over numbers and lists; the row behind it carries it to the program.) Conditions: none beyond the row's own. -/
import Derived.Test.YtgneacekgbjkkaaKFnExactTreePacky2
namespace Go.Proofs.Ytgneacekgbjkkaa.Pure
open Go.RowKit Go.Proofs.Ytgneacekgbjkkaa.X Go.Proofs.YtgneacekgbjkkaaW.PrintWords Go.Proofs.YtgneacekgbjkkaaW.PrintLast Go.Proofs.YtgneacekgbjkkaaW.PrintMore Go.Proofs.Ytgneacekgbjkkaa.Y
set_option linter.unusedVariables false
set_option linter.unusedSimpArgs false
theorem FnExactTreePack (l : List LN) (h : l.length ≤ maxLen ∧ ∀ x ∈ l, (Lit.int .i64 x.f0).wf = true ∧ x.f1.size ≤ maxLen ∧ (x.f2.length ≤ maxLen ∧ ∀ a ∈ x.f2, a.f0.size ≤ maxLen ∧ a.f1.size ≤ maxLen) ∧ x.f3.size ≤ maxLen ∧ (Lit.int .i64 x.f4).wf = true ∧ (x.f5.length ≤ maxLen ∧ ∀ k ∈ x.f5, (Lit.int .i64 k).wf = true)) : ∃ k, laws_FnExactTreePack.f k l = some true := by
  have hl : LTok l := ⟨h.1, fun x hx => by
    obtain ⟨a0, a1, a2, a3, a4, a5, a5'⟩ := h.2 x hx
    exact ⟨wf64 a0, a1, a2, a3, wf64 a4, a5, fun k hk => wf64 (a5' k hk)⟩⟩
  refine Ev.rounds (g := fun k => laws_FnExactTreePack.f k l) (EvP.ev ?_)
  unfold laws_FnExactTreePack.f
  refine EvP.bind (szTree_p l hl 1048576 (by omega) (by omega)) (fun r hr => EvP.ite (fun _ => EvP.some rfl) (fun c => ?_))
  have hw0 := wtT_nonneg l
  have hlen : l.length ≤ 1048576 := by omega
  have hw : wtT l ≤ 1048576 := by omega
  have ta := toTree_ev l hlen (light_cv hlen hw)
  have hs := small_cv hl hlen hw
  have ea := eqTree_same (l.map cvN) (by rw [List.length_map]; omega) (small_eq hs)
  obtain ⟨y, hy, hu, hv⟩ := TreePack_both hs
  have ey := eqByteS_same y.1 (by omega)
  obtain ⟨m5, z5, hm5, k5, _, _⟩ := mark_held (l.map cvN) (by rw [List.length_map]; omega) (fun x hx => ⟨(hs.2 x hx).2.1, (hs.2 x hx).2.2.2.2.2.1⟩)
  have k6 := markByteS_ev y.1 1 (by omega) (by omega)
  have q6 := heldByteS_ev y.1.length 1 (by omega) (by omega)
  exact EvP.of (Ev.bind ta (Ev.bind hu (Ev.bind hv (Ev.bind ey (Ev.bind ea (Ev.bind k5 (Ev.bind k6 (Ev.bind q6 (ev_pos ⟨rfl, rfl, rfl, by show 0 ≤ m5; omega, by show (0 : Int) ≤ 1 + (y.1.length : Int); omega, rfl⟩ (Ev.now _)))))))))) rfl

end Go.Proofs.Ytgneacekgbjkkaa.Pure
