/- The program's TreeAdd gives, for every tree and every node, what the reference's gives, leaves both as they were, and gives new memory each time. (A plain statement over numbers and lists; the row behind it carries it to the program.) Conditions: none beyond the row's own. -/
import Derived.Test.YtgneacekgbjkkaaKFnExactTreeAddy1
namespace Go.Proofs.Ytgneacekgbjkkaa.Pure
open Go.RowKit Go.Proofs.Ytgneacekgbjkkaa.X Go.Proofs.YtgneacekgbjkkaaW.PrintWords Go.Proofs.YtgneacekgbjkkaaW.PrintLast Go.Proofs.YtgneacekgbjkkaaW.PrintMore Go.Proofs.Ytgneacekgbjkkaa.Y
set_option linter.unusedVariables false
set_option linter.unusedSimpArgs false
theorem heldTree_ev {t : List IN} {m : Int} (hm : 1 ≤ m) (h : Ev (fun k => laws_heldNodeS.f k t 1) m) : Ev (fun k => laws_heldTree.f k t 1) m := by
  unfold laws_heldTree.f
  exact Ev.bind h (ev_neg (by omega) (Ev.now _))
theorem endT_le : ∀ (l : List IN) (c : Int), shortL l → endT c l ≤ c + 4000000 * l.length := by
  intro l
  induction l with
  | nil => intro c _; simp [endT]
  | cons x r ih =>
    intro c hs
    have hx := hs x List.mem_cons_self
    have := ih (c + mkwN x) (fun y hy => hs y (List.mem_cons_of_mem _ hy))
    unfold endT
    unfold mkwN at this ⊢
    rw [List.length_cons]
    omega
theorem markTree_ev (l : List IN) (hn : l.length ≤ 1048576) (hs : shortL l) : Ev (fun k => laws_markTree.f k l 1) (endT 1 l, markT 1 l) := by
  have := markT_l l.length hn l.length l 1 0 rfl (by omega) (by omega) (by omega) (by omega) hs
  simpa [laws_markTree.f, laws_markNodeS.f] using this
theorem markNode_ev (x : IN) (c : Int) (h2 : x.f2.length ≤ 1048576) (h5 : x.f5.length ≤ 1048576) (h0 : 1 ≤ c) (hc : c ≤ 4611686000000000000) : ∃ m z2 z5, 0 ≤ m ∧ Ev (fun k => laws_markNode.f k x.f0 x.f1 x.f2 x.f3 x.f4 x.f5 c) (m, z2, z5) := by
  unfold laws_markNode.f
  exact ⟨_, _, _, by omega, Ev.bind (markAttrS_at x.f2 c (by omega) (by omega) (by omega)) (Ev.bind (markIntS_ev x.f5 (c + 2 * (x.f2.length : Int)) (by omega) (by omega)) (Ev.now _))⟩
theorem FnExactTreeAdd (l : List LN) (b0 : Int) (b1 : ByteArray) (l2 : List LA) (b3 : ByteArray) (b4 : Int) (l5 : List Int) (h : l.length ≤ maxLen ∧ ∀ x ∈ l, (Lit.int .i64 x.f0).wf = true ∧ x.f1.size ≤ maxLen ∧ (x.f2.length ≤ maxLen ∧ ∀ a ∈ x.f2, a.f0.size ≤ maxLen ∧ a.f1.size ≤ maxLen) ∧ x.f3.size ≤ maxLen ∧ (Lit.int .i64 x.f4).wf = true ∧ (x.f5.length ≤ maxLen ∧ ∀ k ∈ x.f5, (Lit.int .i64 k).wf = true)) (hb : (Lit.int .i64 b0).wf = true ∧ b1.size ≤ maxLen ∧ (l2.length ≤ maxLen ∧ ∀ a ∈ l2, a.f0.size ≤ maxLen ∧ a.f1.size ≤ maxLen) ∧ b3.size ≤ maxLen ∧ (Lit.int .i64 b4).wf = true ∧ (l5.length ≤ maxLen ∧ ∀ k ∈ l5, (Lit.int .i64 k).wf = true)) : ∃ k, laws_FnExactTreeAdd.f k l b0 b1 l2 b3 b4 l5 = some true := by
  have hl : LTok l := ⟨h.1, fun x hx => by
    obtain ⟨a0, a1, a2, a3, a4, a5, a5'⟩ := h.2 x hx
    exact ⟨wf64 a0, a1, a2, a3, wf64 a4, a5, fun k hk => wf64 (a5' k hk)⟩⟩
  have hnb : LNok ⟨b0, b1, l2, b3, b4, l5⟩ := by
    obtain ⟨a0, a1, a2, a3, a4, a5, a5'⟩ := hb
    exact ⟨wf64 a0, a1, a2, a3, wf64 a4, a5, fun k hk => wf64 (a5' k hk)⟩
  refine Ev.rounds (g := fun k => laws_FnExactTreeAdd.f k l b0 b1 l2 b3 b4 l5) (EvP.ev ?_)
  unfold laws_FnExactTreeAdd.f
  refine EvP.bind (szTree_p l hl 1048576 (by omega) (by omega)) (fun r hr => EvP.ite (fun _ => EvP.some rfl) (fun c => ?_))
  have hw0 := wtT_nonneg l
  refine EvP.bind (szNode_p ⟨b0, b1, l2, b3, b4, l5⟩ hnb r (by omega) (by omega)) (fun r2 hr2 => EvP.ite (fun _ => EvP.some rfl) (fun c2 => ?_))
  have hlen : l.length ≤ 1048576 := by omega
  have hw : wtT l ≤ 1048576 := by omega
  have hwn : wtN ⟨b0, b1, l2, b3, b4, l5⟩ ≤ 1048576 := by omega
  have hw1 := wtN_nonneg ⟨b0, b1, l2, b3, b4, l5⟩
  have hsn1 := small_cv (l := [⟨b0, b1, l2, b3, b4, l5⟩]) ⟨by simp, fun x hx => by rw [List.mem_singleton.1 hx]; exact hnb⟩ (by simp) (by simp only [wtT]; omega)
  have hsn : smallN (cvN ⟨b0, b1, l2, b3, b4, l5⟩) := hsn1.2 _ (by simp)
  have hn2 : l2.length ≤ 1048576 := by have := hsn.2.1; simpa [cvN] using this
  have hn5 : l5.length ≤ 1048576 := by have := hsn.2.2.2.2.2.1; simpa [cvN] using this
  have ta := toTree_ev l hlen (light_cv hlen hw)
  have tn := toNode_ev ⟨b0, b1, l2, b3, b4, l5⟩ hn2 hn5
  have hs := small_cv hl hlen hw
  have ea := eqTree_same (l.map cvN) (by rw [List.length_map]; omega) (small_eq hs)
  have en := eqNode_same (cvN ⟨b0, b1, l2, b3, b4, l5⟩) (by have := hsn.2.1; omega) (by have := hsn.2.2.2.2.2.1; omega)
  obtain ⟨y, v, hu, hv, hy1, hy2⟩ := TreeAdd_both hs (cvN ⟨b0, b1, l2, b3, b4, l5⟩) hsn
  have ey := eqTree_same y (by omega) (fun x hx => ⟨by have := (hy2 x hx).1; omega, by have := (hy2 x hx).2; omega⟩)
  have hsl : shortL (l.map cvN) := fun x hx => ⟨(hs.2 x hx).2.1, (hs.2 x hx).2.2.2.2.2.1⟩
  have k5 := markTree_ev (l.map cvN) (by rw [List.length_map]; omega) hsl
  have hle := endT_le (l.map cvN) 1 hsl
  rw [List.length_map] at hle
  obtain ⟨m, z2, z5, hm, kn⟩ := markNode_ev (cvN ⟨b0, b1, l2, b3, b4, l5⟩) (endT 1 (l.map cvN)) hsn.2.1 hsn.2.2.2.2.2.1 (endT_ge _ _) (by omega)
  obtain ⟨m6, z6, hm6, k6, _, q6⟩ := mark_held y (by omega) hy2
  exact EvP.of (Ev.bind ta (Ev.bind tn (Ev.bind hu (Ev.bind hv (Ev.bind ey (Ev.bind ea (Ev.bind en (Ev.bind k5 (Ev.bind kn (Ev.bind k6 (Ev.bind (heldTree_ev hm6 q6) (ev_pos ⟨rfl, rfl, rfl, rfl, by show 0 ≤ m; omega, by show 0 ≤ m6; omega, rfl⟩ (Ev.now _))))))))))))) rfl

end Go.Proofs.Ytgneacekgbjkkaa.Pure
