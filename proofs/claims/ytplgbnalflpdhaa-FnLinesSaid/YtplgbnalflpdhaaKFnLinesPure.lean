/- Of drawn points lines end by 10 alone; nothing else is turned; done twice it is done once. (A plain statement over numbers and lists; the row behind it carries it to the program.) Conditions: none beyond the row's own. -/
import Derived.Test.YtplgbnalflpdhaaKFnLinesy1
namespace Go.Proofs.Ytplgbnalflpdhaa.Pure
open Go.RowKit Go.Proofs.Ytplgbnalflpdhaa.X Go.Proofs.YtplgbnalflpdhaaW.PrintWords Go.Proofs.YtplgbnalflpdhaaW.PrintLast Go.Proofs.YtplgbnalflpdhaaW.PrintMore Go.Proofs.Ytplgbnalflpdhaa.Y
set_option linter.unusedVariables false
set_option linter.unusedSimpArgs false
theorem drawLines_l0 (l : List Int) (hl : l.length ≤ 1048576) (n : Int) (hn : n ≤ 12) : ∀ (d : Nat) (acc : List Int) (c i h : Int), 0 ≤ i ∧ i ≤ l.length → 0 ≤ c → c + d = n ∨ (n ≤ c ∧ d = 0) → acc.length + d ≤ 60 → EvP (fun k => spec_DrawLinesOf.l0 k acc n c l i h) (fun b => b.length ≤ 3001) := by
  intro d
  induction d with
  | zero =>
    intro acc c i h hi hc hd hx
    refine EvP.succ ?_
    simp only [spec_DrawLinesOf.l0]
    refine EvP.neg (by omega) (EvP.bindS (l1Once_p l i h 60 hl hi (by omega)) (fun o ho => EvP.ite (fun _ => ?_) (fun _ => EvP.some (by omega))))
    refine EvP.bindS (l1Below_p l _ _ 2 hl ho.2 (by omega)) (fun b hb => ?_)
    rw [w64 (x := 3000 + b.1) (by omega) (by omega)]
    refine EvP.pos (by omega) (EvP.pos (by omega) (EvP.some ?_))
    rw [List.length_replicate]; omega
  | succ d ih =>
    intro acc c i h hi hc hd hx
    refine EvP.succ ?_
    simp only [spec_DrawLinesOf.l0]
    refine EvP.pos (by omega) (EvP.bindS (l1PickInt_p l i h _ hl hi (by simp) (by simp)) (fun p hp => ?_))
    rw [w64 (x := c + 1) (by omega) (by omega)]
    exact EvP.pos (by omega) (ih _ (c + 1) _ _ hp.2 (by omega) (by omega) (by rw [List.length_append, List.length_singleton]; omega))
theorem drawLines_p (l : List Int) (hl : l.length ≤ 1048576) : EvP (fun k => spec_DrawLinesOf.f k l) (fun b => b.length ≤ 3001) := by
  unfold spec_DrawLinesOf.f
  refine EvP.bind (l1New_p l hl) (fun c hc => ?_)
  rw [hc.1]
  refine EvP.bindS (l1Size_p l 12 hl (by omega)) (fun n hn => ?_)
  rw [w64 (x := n + 1) (by omega) (by omega)]
  refine EvP.bindS (l1Below_p l _ _ (n + 1) hl hc.2 (by omega)) (fun b hb => ?_)
  exact drawLines_l0 l hl b.1 (by omega) b.1.toNat [] 0 _ _ hb.2 (by omega) (by omega) (by simp; omega)
theorem fnLines_l0 (p : List Int) : ∀ (d : Nat) (i : Int), 0 ≤ i → i + d = (linesR p).length → Ev (fun k => laws_FnLines.l0 k p (linesR p) i) true := by
  intro d
  have hlen := linesR_len p
  induction d with
  | zero =>
    intro i h0 h
    refine ev_succ ?_
    simp only [laws_FnLines.l0, impl_LinesOf_eq, Option.bind_some, linesR_twice]
    refine ev_neg (by omega) (Ev.bind (sameInts_same _ (by omega)) (ev_pos rfl (ev_some ?_)))
    simp; omega
  | succ d ih =>
    intro i h0 h
    refine ev_succ ?_
    simp only [laws_FnLines.l0]
    have hne : rd (linesR p) i ≠ 13 := linesR_no13 p _ (by rw [rd_get' h0 (by omega)]; exact List.getElem_mem _)
    rw [w64 (x := i + 1) (by omega) (by omega)]
    exact ev_pos (by omega) (ev_pos h0 (ev_neg hne (ih (i + 1) (by omega) (by omega))))
theorem FnLines : laws_FnLines.Pure := by
  intro l _ _ hw
  refine Ev.rounds (g := fun k => laws_FnLines.f k l) ?_
  unfold laws_FnLines.f laws_big.f
  simp only [Option.bind_some]
  by_cases hb : (l.length : Int) > 1048576
  · exact ev_pos (by simpa using hb) (Ev.now _)
  · refine ev_neg (by simpa using hb) ?_
    refine EvP.ev (EvP.bind (drawLines_p l (by omega)) (fun p hp => ?_))
    have hlen := linesR_len p
    simp only [impl_LinesOf_eq, Option.bind_some]
    refine EvP.bind (EvP.of (spec_LinesOf_ev p (by omega)) rfl) (fun q hq => ?_)
    subst hq
    refine EvP.bind (EvP.of (sameInts_same _ (by omega)) rfl) (fun t ht => ?_)
    subst ht
    exact EvP.pos rfl (EvP.of (fnLines_l0 p (linesR p).length 0 (by omega) (by omega)) rfl)

end Go.Proofs.Ytplgbnalflpdhaa.Pure
