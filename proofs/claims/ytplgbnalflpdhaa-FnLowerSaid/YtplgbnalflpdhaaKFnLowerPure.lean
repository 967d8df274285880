/- A drawn text that is lowered has no letter A to Z, is as long, and stays when it is lowered again; a name that is right is lowered. (A plain statement over numbers and lists; the row behind it carries it to the program.) Conditions: none beyond the row's own. -/
import Derived.Test.YtplgbnalflpdhaaKFnLowery1
namespace Go.Proofs.Ytplgbnalflpdhaa.Pure
open Go.RowKit Go.Proofs.Ytplgbnalflpdhaa.X Go.Proofs.YtplgbnalflpdhaaW.PrintWords Go.Proofs.YtplgbnalflpdhaaW.PrintLast Go.Proofs.YtplgbnalflpdhaaW.PrintMore Go.Proofs.Ytplgbnalflpdhaa.Y
set_option linter.unusedVariables false
set_option linter.unusedSimpArgs false
theorem lower_end (l : List Int) (hl : l.length ≤ 1048576) : EvP (fun k => ((spec_DrawNameOk.f k l).bind fun t110 => ((impl_NameOk.f k t110).bind fun t111 => ((spec_NameOk.f k t110).bind fun t112 => (if (t111 == t112) = true then (if t111 = true then ((impl_LowerText.f t110).bind fun t113 => (if t113.toList = t110.toList then (some (decide ((t110.size : Int) ≤ 60))) else (some false))) else (some true)) else (some false)))))) (fun r => r = true) := by
  refine EvP.bind (DrawNameOk_p l hl) (fun s hs => ?_)
  refine EvP.bind (EvP.of (impl_NameOk_ev s (by omega)) rfl) (fun a ha => ?_)
  subst ha
  refine EvP.bind (EvP.of (spec_NameOk_ev s (by omega)) rfl) (fun b hb => ?_)
  subst hb
  refine EvP.pos (by simp) (EvP.ite (fun hok => ?_) (fun _ => EvP.some rfl))
  simp only [impl_LowerText_eq s (by omega), Option.bind_some]
  unfold nameOk at hok
  simp only [Bool.and_eq_true, decide_eq_true_eq, List.all_eq_true, Bool.not_eq_true'] at hok
  have hm : (bytesOf s).map lowByte = bytesOf s := by
    conv => rhs; rw [← List.map_id (bytesOf s)]
    refine List.map_congr_left (fun x hx => ?_)
    have ho := hok.2 x hx
    unfold outer at ho
    simp only [Bool.or_eq_false_iff, decide_eq_false_iff_not] at ho
    unfold lowByte
    rw [if_neg ho.2]; rfl
  rw [hm, str_bytes]
  exact EvP.pos rfl (EvP.some (by simp; omega))
theorem lower_l0 (l : List Int) (hl : l.length ≤ 1048576) (s : ByteArray) (hs : s.size ≤ 100) : ∀ (d : Nat) (i : Int), 0 ≤ i → i + d = s.size → EvP (fun k => laws_FnLower.l0 k l s (lowText s) i) (fun r => r = true) := by
  intro d
  induction d with
  | zero =>
    intro i h0 h
    refine EvP.succ ?_
    simp only [laws_FnLower.l0]
    exact EvP.neg (by omega) (lower_end l hl)
  | succ d ih =>
    intro i h0 h
    refine EvP.succ ?_
    simp only [laws_FnLower.l0]
    have hb := bt_range s i
    have hz := lowText_size s
    have hq := lowText_bt s i h0 (by omega)
    have hlo : lowByte (bt s i) = lowerOf (bt s i) := rfl
    have hr := lowByte_range hb
    have nxt := ih (i + 1) (by omega) (by omega)
    rw [hq, w64 (x := bt s i) (by omega) (by omega), w64 (x := i + 1) (by omega) (by omega), w64 (x := lowByte (bt s i)) (by omega) (by omega)]
    simp only [impl_LowerOf_eq, impl_IsBlank_eq, impl_IsAlpha_eq, Option.bind_some]
    refine EvP.pos (by omega) (EvP.pos h0 (EvP.pos (by omega) (EvP.pos hlo ?_)))
    refine EvP.ite (fun _ => EvP.ite (fun _ => nxt) (fun _ => nxt)) (fun hne => ?_)
    have hu : 65 ≤ bt s i ∧ bt s i ≤ 90 := by
      apply Classical.byContradiction
      intro hc
      apply hne
      unfold lowByte
      rw [if_neg hc]
    have ha : isAlpha (bt s i) = true := by unfold isAlpha; rw [decide_eq_true hu]; rfl
    have hbl : Y.blank (bt s i) = false := by
      unfold Y.blank
      simp only [Bool.or_eq_false_iff, decide_eq_false_iff_not]
      omega
    rw [ha, hbl]
    exact EvP.pos rfl (EvP.neg (by simp) nxt)
theorem FnLower : laws_FnLower.Pure := by
  intro l hl _ hw
  refine Ev.rounds (g := fun k => laws_FnLower.f k l) ?_
  unfold laws_FnLower.f laws_big.f
  simp only [Option.bind_some]
  by_cases hb : (l.length : Int) > 1048576
  · exact ev_pos (by simpa using hb) (Ev.now _)
  · refine ev_neg (by simpa using hb) ?_
    refine EvP.ev (EvP.bind (DrawLowerText_p l (by omega)) (fun s hs => ?_))
    have hz := lowText_size s
    simp only [impl_LowerText_eq s (by omega), Option.bind_some]
    refine EvP.bind (EvP.of (spec_LowerText_ev s (by omega)) rfl) (fun t ht => ?_)
    subst ht
    change EvP (fun k => if (lowText s).toList = (lowText s).toList then _ else _) _
    refine EvP.pos rfl (EvP.pos (by show ((lowText s).size : Int) = s.size; omega) ?_)
    have e2 : impl_LowerText.f (strOfNums ((bytesOf s).map lowByte)) = some (lowText s) := by
      rw [show strOfNums ((bytesOf s).map lowByte) = lowText s from rfl, impl_LowerText_eq _ (by omega)]
      show some (lowText (lowText s)) = _
      rw [lowText_twice]
    simp only [e2, Option.bind_some]
    refine EvP.succ ?_
    simp only [laws_FnLower.j0]
    refine EvP.neg (by show ¬ ((lowText s).toList != (lowText s).toList) = true; simp) ?_
    exact lower_l0 l (by omega) s hs s.size 0 (by omega) (by omega)

end Go.Proofs.Ytplgbnalflpdhaa.Pure
