/- Drawn points are read from their bytes as they were, but for the mark at the beginning; drawn bytes are read as points alone, and read again from their own bytes as the same. (A plain statement over numbers and lists; the row behind it carries it to the program.) Conditions: none beyond the row's own. -/
import Derived.Test.YtplgbnalflpdhaaKFnUtfy1
namespace Go.Proofs.Ytplgbnalflpdhaa.Pure
open Go.RowKit Go.Proofs.Ytplgbnalflpdhaa.X Go.Proofs.YtplgbnalflpdhaaW.PrintWords Go.Proofs.YtplgbnalflpdhaaW.PrintLast Go.Proofs.YtplgbnalflpdhaaW.PrintMore Go.Proofs.Ytplgbnalflpdhaa.Y
set_option linter.unusedVariables false
set_option linter.unusedSimpArgs false
theorem utf_l0 (p : List Int) (hp : ∀ x ∈ p, pointOk x = true) (hlen : p.length ≤ 3000) : ∀ (d : Nat) (i : Int), 0 ≤ i → i + d = p.length → EvP (fun k => laws_FnUtf.l0 k p i) (fun r => r = true) := by
  intro d
  induction d with
  | zero =>
    intro i h0 h
    refine EvP.succ ?_
    simp only [laws_FnUtf.l0]
    refine EvP.neg (by omega) (EvP.bind (EvP.of (impl_PointsPut_ev p) rfl) (fun b hb => ?_))
    subst hb
    have hw := pointsPut_wf p
    refine EvP.bind (EvP.of (impl_UtfRead_ev _ hw) rfl) (fun q hq => ?_)
    subst hq
    have hpp : pointsPut p = Y.putAll p := by unfold pointsPut; rw [if_neg (by omega)]
    have hub := unBom_put p hp
    have hback := urAll_put p hp
    refine EvP.ite (fun hpos => EvP.pos (by omega) ?_) (fun hneg => ?_)
    · obtain ⟨x, xs, rfl⟩ : ∃ x xs, p = x :: xs := by
        cases p with
        | nil => simp at hpos
        | cons x xs => exact ⟨x, xs, rfl⟩
      have r0 : rd (x :: xs) 0 = x := rfl
      rw [r0]
      refine EvP.succ ?_
      simp only [laws_FnUtf.j2]
      by_cases hx : x = 65279
      · refine EvP.pos (by rw [hx]; rfl) (EvP.ite (fun _ => EvP.some rfl) (fun hle => EvP.pos (by simp only [List.length_cons]; omega) ?_))
        have : utfRead (pointsPut (x :: xs)) = (x :: xs).drop 1 := by
          unfold utfRead
          rw [if_neg (by omega), hpp, hub]
          simp only [if_pos hx]
          exact urAll_put xs (fun y hy => hp y (by simp [hy]))
        rw [this]
        exact EvP.bind (EvP.of (sameInts_same _ (by simp only [List.length_drop, List.length_cons] at *; omega)) rfl) (fun t ht => EvP.some ht.symm)
      · refine EvP.neg (by simpa using hx) (EvP.ite (fun _ => EvP.some rfl) (fun hle => ?_))
        have : utfRead (pointsPut (x :: xs)) = x :: xs := by
          unfold utfRead
          rw [if_neg (by omega), hpp, hub]
          simp only [if_neg hx]
          exact hback
        rw [this]
        refine EvP.bind (EvP.of (sameInts_same _ (by simp only [List.length_cons] at *; omega)) rfl) (fun t ht => EvP.pos ht.symm ?_)
        have hok : utfOk (pointsPut (x :: xs)) = true := by
          unfold utfOk; rw [this, decide_eq_true (by omega)]; simp
        refine EvP.bind (EvP.of (impl_UtfOk_ev _ hw) rfl) (fun u hu => EvP.some (by rw [← hu, hok]))
    · have : p = [] := List.length_eq_zero_iff.1 (by omega)
      subst this
      have e : pointsPut [] = [] := rfl
      rw [e]
      refine EvP.succ ?_
      simp only [laws_FnUtf.j2]
      refine EvP.neg (by simp) (EvP.neg (by simp) ?_)
      have : utfRead [] = [] := by decide
      rw [this]
      refine EvP.bind (EvP.of (sameInts_same [] (by simp)) rfl) (fun t ht => EvP.pos ht.symm ?_)
      have hok : utfOk [] = true := by decide
      exact EvP.bind (EvP.of (impl_UtfOk_ev _ (by simp)) rfl) (fun u hu => EvP.some (by rw [← hu, hok]))
  | succ d ih =>
    intro i h0 h
    refine EvP.succ ?_
    simp only [laws_FnUtf.l0]
    have hrd : rd p i = p[i.toNat]'(by omega) := rd_get h0 (by omega)
    have ho : pointOk (rd p i) = true := by rw [hrd]; exact hp _ (List.getElem_mem _)
    have hl1 := pointPut_len (rd p i)
    rw [w64 (x := i + 1) (by omega) (by omega)]
    simp only [impl_PointOk_eq, ho, Option.bind_some]
    refine EvP.pos (by omega) (EvP.pos h0 (EvP.pos trivial (EvP.bind (EvP.of (impl_PointPut_ev _) rfl) (fun b hb => ?_))))
    subst hb
    exact EvP.neg (by omega) (ih (i + 1) (by omega) (by omega))
theorem FnUtf : laws_FnUtf.Pure := by
  intro l _ hl hw
  refine Ev.rounds (g := fun k => laws_FnUtf.f k l) ?_
  refine EvP.ev ?_
  unfold laws_FnUtf.f laws_big.f
  simp only [Option.bind_some, decide_eq_true_eq]
  refine EvP.ite (fun _ => EvP.some rfl) (fun hb => ?_)
  have hl : l.length ≤ 1048576 := by omega
  unfold spec_DrawUtfRead.f
  refine EvP.bind (EvP.bind (l1DrawUtf_p l hl) (fun b hb => EvP.some (Q := fun b => bytesOk b ∧ b.length ≤ 3001) hb)) (fun b hb => ?_)
  have hbw := bytesOk_wf hb.1
  refine EvP.bind (EvP.of (impl_UtfRead_ev b hbw) rfl) (fun p hp => EvP.bind (EvP.of (spec_UtfRead_ev b hbw) rfl) (fun q hq => ?_))
  have hlen := utfRead_len b
  subst hp
  subst hq
  refine EvP.bind (EvP.of (sameInts_same _ (by omega)) rfl) (fun t ht => EvP.pos ht.symm ?_)
  have hok : ∀ x ∈ utfRead b, pointOk x = true := by
    unfold utfRead
    split
    · simp
    · exact urAll_ok _ (fun x hx => by
        unfold unBom at hx
        split at hx
        · exact (hb.1 x (List.mem_of_mem_drop hx)).1
        · exact (hb.1 x hx).1)
  have hmain := utf_l0 (utfRead b) hok hlen.1 (utfRead b).length 0 (by omega) (by omega)
  refine EvP.ite (fun hgt => ?_) (fun _ => ?_)
  · refine EvP.succ ?_
    simp only [laws_FnUtf.j0]
    have : utfRead b = [] := by unfold utfRead; rw [if_pos hgt]
    exact EvP.neg (by rw [this]; simp) hmain
  · refine EvP.succ ?_
    simp only [laws_FnUtf.j0]
    exact EvP.neg (by simp) hmain

end Go.Proofs.Ytplgbnalflpdhaa.Pure
