/- Drawn numbers and texts are read from their forms, whatever stands behind them. (A plain statement over numbers and lists; the row behind it carries it to the program.) Conditions: none beyond the row's own. -/
import Derived.Test.YtplgbnalflpdhaaKFnNumsy1
namespace Go.Proofs.Ytplgbnalflpdhaa.Pure
open Go.RowKit Go.Proofs.Ytplgbnalflpdhaa.X Go.Proofs.YtplgbnalflpdhaaW.PrintWords Go.Proofs.YtplgbnalflpdhaaW.PrintLast Go.Proofs.YtplgbnalflpdhaaW.PrintMore Go.Proofs.Ytplgbnalflpdhaa.Y
set_option linter.unusedVariables false
set_option linter.unusedSimpArgs false
theorem at_p (l : List Int) (a : Int) (h0 : 0 ≤ a) (h1 : a ≤ 100) (hl : l.length ≤ 1048576) : ∃ v, laws_at.f l a = some v ∧ True := by
  unfold laws_at.f
  by_cases h : a < (l.length : Int)
  · rw [if_pos h, if_pos h0]; exact ⟨_, rfl, trivial⟩
  · rw [if_neg h]; exact ⟨_, rfl, trivial⟩
theorem wfb {b : List Int} (h : ∀ x ∈ b, 0 ≤ x ∧ x ≤ 255) : ∀ x ∈ b, (Lit.int .u8 x).wf = true := fun x hx => by
  simp only [Lit.wf, Bool.and_eq_true, decide_eq_true_eq]; exact h x hx
theorem FnNums : laws_FnNums.Pure := by
  intro l _ hl hw
  refine Ev.rounds (g := fun k => laws_FnNums.f k l) ?_
  refine EvP.ev ?_
  unfold laws_FnNums.f laws_big.f
  simp only [Option.bind_some, decide_eq_true_eq]
  refine EvP.ite (fun _ => EvP.some rfl) (fun hb => ?_)
  have hl : l.length ≤ 1048576 := by omega
  refine EvP.bind (P := fun x => -1 ≤ x ∧ x ≤ 9223372036854775807) ?_ (fun x hx => ?_)
  · unfold spec_DrawPutNum.f
    refine EvP.bind (l1New_p l hl) (fun c hc => ?_)
    rw [hc.1]
    refine EvP.bindS (l1Below_p l _ _ 100000 hl hc.2 (by omega)) (fun a ha => EvP.bindS (l1PickInt_p l _ _ _ hl ha.2 (by simp) (by simp)) (fun p hp => EvP.some ?_))
    have := hp.1
    simp only [List.mem_cons, List.not_mem_nil, or_false] at this
    omega
  refine EvP.bind (EvP.of (impl_PutNum_ev x hx.2) rfl) (fun b hb => ?_)
  subst hb
  refine EvP.ite (fun hneg => ?_) (fun hpos => ?_)
  · rw [if_pos hneg]; exact EvP.some rfl
  rw [if_neg hpos]
  have hn := numForm_len 8 x
  refine EvP.pos (by simp only [List.length_cons, List.length_nil]; omega) (EvP.bindS (at_p l 1 (by omega) (by omega) hl) (fun t _ => EvP.pos (by simp only [List.length_append, List.length_cons, List.length_nil]; omega) ?_))
  have hwn : ∀ y ∈ [9] ++ numForm 8 x ++ [t % 256], (Lit.int .u8 y).wf = true := wfb (by
    intro y hy
    simp only [List.mem_append, List.mem_singleton] at hy
    rcases hy with (rfl | hy) | rfl
    · omega
    · exact numForm_bytes 8 x (by omega) (by omega) y hy
    · omega)
  refine EvP.bind (EvP.of (impl_GetNum_ev _ (by simp only [List.length_append, List.length_cons, List.length_nil]; omega) hwn 1 (by omega)) rfl) (fun g hg => ?_)
  rw [getNum_num _ 1 x [t % 256] (by omega) (by simp) (by omega) hx.2] at hg
  subst hg
  refine EvP.bind (P := fun s => s.size ≤ 40) ?_ (fun s hs => ?_)
  · unfold spec_DrawPutText.f
    refine EvP.bind (l1New_p l hl) (fun c hc => ?_)
    rw [hc.1]
    refine EvP.bindS (l1Size_p l 40 hl (by omega)) (fun n hn => EvP.bind (l1DrawBytes_p l hl _ _ n hc.2 hn.1 (by omega)) (fun b hb => EvP.some ?_))
    rw [str_size]; omega
  refine EvP.bind (EvP.of (impl_PutText_ev s (by omega)) rfl) (fun p hp => ?_)
  subst hp
  have hpl := putText_len s
  refine EvP.pos (by simp only [List.length_nil]; omega) (EvP.bindS (at_p l 2 (by omega) (by omega) hl) (fun u _ => EvP.pos (by simp only [List.length_append, List.length_nil]; omega) ?_))
  simp only [List.nil_append]
  have hwt : ∀ y ∈ putText s ++ [u % 256], (Lit.int .u8 y).wf = true := wfb (by
    intro y hy
    simp only [putText, List.mem_append, List.mem_singleton] at hy
    rcases hy with (hy | hy) | rfl
    · exact numForm_bytes 8 s.size (by omega) (by omega) y hy
    · exact bytesOf_range s y hy
    · omega)
  refine EvP.bind (EvP.of (impl_GetText_ev _ (by simp only [List.length_append, List.length_cons, List.length_nil]; omega) hwt 0 (by omega)) rfl) (fun g hg => ?_)
  rw [getText_put s _ (by omega)] at hg
  subst hg
  refine EvP.pos (by simp) (EvP.pos (by simp) (EvP.pos ?_ (EvP.pos (by simp) (EvP.pos (by simp) (EvP.some (by simp))))))
  rw [w64 (by omega) (by omega)]

end Go.Proofs.Ytplgbnalflpdhaa.Pure
