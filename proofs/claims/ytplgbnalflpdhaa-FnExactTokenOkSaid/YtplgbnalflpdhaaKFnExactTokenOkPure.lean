/- The program's TokenOk gives, for every token, what the reference's gives, and leaves the token as it was. (A plain statement over numbers and lists; the row behind it carries it to the program.) Conditions: none beyond the row's own. -/
import Derived.Test.YtplgbnalflpdhaaKFnExactTokenOky1
namespace Go.Proofs.Ytplgbnalflpdhaa.Pure
open Go.RowKit Go.Proofs.Ytplgbnalflpdhaa.X Go.Proofs.YtplgbnalflpdhaaW.PrintWords Go.Proofs.YtplgbnalflpdhaaW.PrintLast Go.Proofs.YtplgbnalflpdhaaW.PrintMore Go.Proofs.Ytplgbnalflpdhaa.Y
set_option linter.unusedVariables false
set_option linter.unusedSimpArgs false
theorem FnExactTokenOk (kd : Int) (name : ByteArray) (l : List LA) (text : ByteArray) (self : Bool) (h : (Lit.int .i64 kd).wf = true ∧ name.size ≤ maxLen ∧ (l.length ≤ maxLen ∧ ∀ x ∈ l, x.f0.size ≤ maxLen ∧ x.f1.size ≤ maxLen) ∧ text.size ≤ maxLen ∧ True) : ∃ k, laws_FnExactTokenOk.f k kd name l text self = some true := by
  obtain ⟨_, hn, hl, htx, _⟩ := h
  have e63 : maxLen = 9223372036854775807 := rfl
  refine Ev.rounds (g := fun k => laws_FnExactTokenOk.f k kd name l text self) (EvP.ev ?_)
  unfold laws_FnExactTokenOk.f
  refine EvP.bind (P := fun r => r = -1 ∨ (0 ≤ r ∧ r = 1048576 - name.size - l.length - tot l - text.size)) ?_ (fun r hr => EvP.ite (fun _ => EvP.some rfl) (fun hr2 => ?_))
  · unfold laws_szToken.f
    rw [w64 (x := 1048576 - (name.size : Int)) (by omega) (by omega)]
    refine EvP.ite (fun _ => EvP.some (.inl rfl)) (fun h1 => EvP.bind (szAttrS_p l hl _ (by omega) (by omega)) (fun r hr => EvP.ite (fun _ => EvP.some (.inl rfl)) (fun h2 => ?_)))
    have htn := tot_nonneg l
    rw [w64 (x := r - (text.size : Int)) (by omega) (by omega)]
    exact EvP.ite (fun _ => EvP.some (.inl rfl)) (fun h3 => EvP.some (.inr ⟨by omega, by omega⟩))
  have htn := tot_nonneg l
  have ht := toAttrS_ev l (by omega)
  have hto : Ev (fun k => laws_toToken.f k kd name l text self) (kd, name, l.map cv, text, self) := by
    unfold laws_toToken.f
    exact Ev.bind ht (Ev.now _)
  have hsz : ∀ x ∈ l.map cv, x.f0.size ≤ 1048576 ∧ x.f1.size ≤ 1048576 := by
    intro x hx
    obtain ⟨y, hy, rfl⟩ := List.mem_map.1 hx
    have := tot_size hy
    simp only [cv]; omega
  obtain ⟨u, hu, hv⟩ := TokenOk_both kd name (l.map cv) text self (by omega) (by omega) hsz
  have hq := eqAttrS_same (l.map cv) (by rw [List.length_map]; omega)
  have he : Ev (fun k => laws_eqToken.f k kd name (l.map cv) text self kd name (l.map cv) text self) true := by
    unfold laws_eqToken.f
    exact ev_pos rfl (ev_pos rfl (Ev.bind hq (ev_pos rfl (ev_pos rfl (ev_neg (by simp) (Ev.now _))))))
  exact EvP.of (Ev.bind hto (Ev.bind hu (Ev.bind hto (Ev.bind hv (ev_neg (by simp) (Ev.bind hto (Ev.bind he (ev_pos rfl (Ev.now _))))))))) rfl

end Go.Proofs.Ytplgbnalflpdhaa.Pure
