/- A number stands for a point, whatever it is, and the names stand in order, each for a point. (A plain statement over numbers and lists; the row behind it carries it to the program.) Conditions: none beyond the row's own. -/
import Derived.Test.YtplgbnalflpdhaaKFnRefNumbery1
namespace Go.Proofs.Ytplgbnalflpdhaa.Pure
open Go.RowKit Go.Proofs.Ytplgbnalflpdhaa.X Go.Proofs.YtplgbnalflpdhaaW.PrintWords Go.Proofs.YtplgbnalflpdhaaW.PrintLast Go.Proofs.YtplgbnalflpdhaaW.PrintMore Go.Proofs.Ytplgbnalflpdhaa.Y
set_option linter.unusedVariables false
set_option linter.unusedSimpArgs false
def refList : List S39 := (impl_Refs.f).getD []
theorem refList_is : impl_Refs.f = some refList := rfl
theorem refList_len : refList.length = 24 := by decide
theorem refList_ok : ∀ n : Nat, n < 24 → pointOk (rd_T39 refList (n : Int)).f1 = true := by decide +kernel
theorem refList_less : ∀ n : Nat, n < 23 → (Op.bytesLess ((rd_T39 refList (n : Int)).f0).toList ((rd_T39 refList ((n + 1 : Nat) : Int)).f0).toList) = true := by decide +kernel
theorem refs_l0 (x : Int) : ∀ (d i : Nat), i + d = 24 → Ev (fun k => laws_FnRefNumber.l0 k x (refNumber x) refList i) true := by
  intro d
  induction d with
  | zero =>
    intro i h
    refine ev_succ ?_
    simp only [laws_FnRefNumber.l0, impl_PointOk_eq, Option.bind_some, refList_len]
    refine ev_neg (by omega) (ev_pos rfl ?_)
    by_cases hp : pointOk x = true
    · refine ev_pos hp ?_
      by_cases h0 : x = 0
      · exact ev_pos h0 (Ev.now _)
      · refine ev_neg h0 ?_
        by_cases h1 : 128 ≤ x ∧ x ≤ 159
        · exact ev_pos (by omega) (ev_pos (by omega) (Ev.now _))
        · have : (refNumber x == x) = true := by rw [refNumber_id hp h0 h1]; simp
          rw [this]
          by_cases h2 : x ≥ 128
          · exact ev_pos h2 (ev_neg (by omega) (Ev.now _))
          · exact ev_neg h2 (Ev.now _)
    · exact ev_neg hp (Ev.now _)
  | succ d ih =>
    intro i h
    refine ev_succ ?_
    simp only [laws_FnRefNumber.l0, impl_PointOk_eq, Option.bind_some, refList_len]
    rw [w64 (x := (i : Int) + 1) (by omega) (by omega), refList_ok i (by omega)]
    refine ev_pos (by omega) (ev_pos (by omega) (ev_pos rfl ?_))
    by_cases h0 : (i : Int) > 0
    · have hl := refList_less (i - 1) (by omega)
      rw [w64 (x := (i : Int) - 1) (by omega) (by omega)]
      have e1 : (i : Int) - 1 = ((i - 1 : Nat) : Int) := by omega
      have e2 : i - 1 + 1 = i := by omega
      rw [e2] at hl
      rw [e1]
      refine ev_pos h0 (ev_pos (by omega) (ev_pos (by omega) (ev_pos hl ?_)))
      exact ih (i + 1) (by omega)
    · exact ev_neg h0 (ih (i + 1) (by omega))
theorem FnRefNumber : laws_FnRefNumber.Pure := by
  intro l _ hl hw
  refine Ev.rounds (g := fun k => laws_FnRefNumber.f k l) ?_
  refine EvP.ev ?_
  unfold laws_FnRefNumber.f laws_big.f
  simp only [Option.bind_some, decide_eq_true_eq]
  refine EvP.ite (fun _ => EvP.some rfl) (fun hb => ?_)
  have hl : l.length ≤ 1048576 := by omega
  refine EvP.bind (P := fun _ => True) ?_ (fun x _ => ?_)
  · unfold spec_DrawRefNumber.f
    refine EvP.bind (l1New_p l hl) (fun c hc => ?_)
    rw [hc.1]
    refine EvP.bindS (l1Below_p l _ _ 32 hl hc.2 (by omega)) (fun a ha => EvP.bindS (l1Below_p l _ _ 100000 hl ha.2 (by omega)) (fun b hb => EvP.bindS (l1PickInt_p l _ _ _ hl hb.2 (by simp) (by simp)) (fun p hp => EvP.some trivial)))
  · simp only [impl_RefNumber_eq, Option.bind_some, impl_PointOk_eq]
    refine EvP.bind (EvP.of (spec_RefNumber_ev x) rfl) (fun y hy => ?_)
    subst hy
    have hk := refNumber_ok x
    refine EvP.pos rfl ?_
    rw [hk.1]
    refine EvP.pos rfl (EvP.succ ?_)
    simp only [laws_FnRefNumber.j0, refList_is, Option.bind_some]
    exact EvP.neg (by simpa using hk.2) (EvP.of (refs_l0 x 24 0 rfl) rfl)

end Go.Proofs.Ytplgbnalflpdhaa.Pure
