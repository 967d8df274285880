/- Of drawn trees the program and the reference give the same text: of a place that is none, or of a tree that is not right, none; else the node's own text and then its kids', in their order. (A plain statement over numbers and lists; the row behind it carries it to the program.) Conditions: none beyond the row's own. -/
import Derived.Test.YtgneacekgbjkkaaKFnTextsy1
namespace Go.Proofs.Ytgneacekgbjkkaa.Pure
open Go.RowKit Go.Proofs.Ytgneacekgbjkkaa.X Go.Proofs.YtgneacekgbjkkaaW.PrintWords Go.Proofs.YtgneacekgbjkkaaW.PrintLast Go.Proofs.YtgneacekgbjkkaaW.PrintMore Go.Proofs.Ytgneacekgbjkkaa.Y
set_option linter.unusedVariables false
set_option linter.unusedSimpArgs false
section
variable {xs : List IN}
theorem texts_l (rt : RT xs) (hr : rightP xs) (hs : smallT xs) {i : Int} (hi : inT xs i) : ∀ (d j : Nat) (o : ByteArray), j + d = (kd xs i).length → o.size ≤ (j + 1) * 1048576000 →
    Ev (fun k => laws_FnTexts.l0 k (j : Int) o xs (kd xs i)) (o ++ txtOf xs (((kd xs i).drop j).flatMap (preT xs))) := by
  have hkl : (kd xs i).length ≤ 1048576 := (smallN_at hs hi.1 hi.2).2.2.2.2.2.1
  intro d
  induction d with
  | zero =>
    intro j o h ho
    refine ev_succ ?_
    simp only [laws_FnTexts.l0]
    rw [List.drop_of_length_le (by omega)]
    refine ev_neg (by omega) (ev_some ?_)
    simp only [List.flatMap_nil, txtOf]
    rw [ba_nil]
  | succ d ih =>
    intro j o h ho
    have hj : j < (kd xs i).length := by omega
    have hrd : rd (kd xs i) (j : Int) = (kd xs i)[j] := by
      unfold rd
      rw [Int.toNat_natCast, List.getD_eq_getElem?_getD, List.getElem?_eq_getElem hj]; rfl
    have hk := rt.inKid hi (List.getElem_mem hj)
    obtain ⟨r, _, hr2, _, hr4⟩ := TextOf_both hs ((kd xs i)[j]) (by have := hk.1; have := hk.2; have := hs.1; omega)
    have er := hr4 hr hk
    subst er
    have hpl := preT_len rt hk
    have hpm := rt.most
    have hsz := txtOf_size hs (preT xs ((kd xs i)[j])) (preT_in rt hk)
    have e : (kd xs i).drop j = (kd xs i)[j] :: (kd xs i).drop (j + 1) := List.drop_eq_getElem_cons hj
    refine ev_succ ?_
    simp only [laws_FnTexts.l0]
    rw [hrd, w64 (by omega) (by omega)]
    refine ev_pos (by omega) (ev_pos (by omega) (Ev.bind hr2 (ev_pos ?_ ?_)))
    · have : o.size ≤ 2 ^ 52 := by
        refine Nat.le_trans ho ?_
        have : (j + 1) * 1048576000 ≤ 1048577 * 1048576000 := Nat.mul_le_mul_right _ (by omega)
        omega
      omega
    · have h2 := ih (j + 1) (o ++ txtOf xs (preT xs ((kd xs i)[j]))) (by omega) (by rw [ByteArray.size_append]; omega)
      rw [e, List.flatMap_cons, txtOf_append, ← ByteArray.append_assoc]
      exact h2
theorem texts_out (rt : RT xs) (hr : rightP xs) (hs : smallT xs) {i : Int} (hi : inT xs i) : Ev (fun k => laws_FnTexts.l0 k 0 (txt1 xs i) xs (kd xs i)) (txtOf xs (preT xs i)) := by
  have h := texts_l rt hr hs hi (kd xs i).length 0 (txt1 xs i) (by omega) (by have := txt1_size hs hi; omega)
  rw [List.drop_zero] at h
  rw [preT_eq rt hi]
  exact h
end
theorem FnTexts : laws_FnTexts.Pure := by
  intro l _ _ hw
  refine Ev.rounds (g := fun k => laws_FnTexts.f k l) ?_
  unfold laws_FnTexts.f laws_big.f
  simp only [Option.bind_some]
  by_cases hb : (l.length : Int) > 1048576
  · exact ev_pos (by simpa using hb) (Ev.now _)
  · refine ev_neg (by simpa using hb) ?_
    refine EvP.ev (EvP.bind (DrawTextOf_p l (by omega)) (fun d hd => ?_))
    obtain ⟨r, h1, h2, h3, h4⟩ := TextOf_both hd.1 d.2 hd.2
    obtain ⟨u, hu, hu2⟩ := spec_TreeOk_p hd.1
    refine EvP.bind (EvP.of h2 (Q := fun x => x = r) rfl) (fun s e => ?_)
    subst e
    refine EvP.bind (EvP.of h1 (Q := fun x => x = s) rfl) (fun z e => ?_)
    subst e
    refine EvP.pos rfl (EvP.bind (EvP.of hu (Q := fun x => x = u) rfl) (fun v e => ?_))
    subst e
    have hnil : (¬ rightP d.1 ∨ ¬ inT d.1 d.2) → z.toList.isEmpty = true := fun g => by rw [h3 g]; unfold ByteArray.toList ByteArray.toList.loop; rfl
    refine EvP.ite (fun hv => ?_) (fun hv => EvP.some (hnil (Or.inl (fun g => hv (hu2.2 g)))))
    have hr := hu2.1 hv
    refine EvP.ite (fun c => EvP.some (hnil (Or.inr (fun g => by have := g.1; omega)))) (fun c => EvP.ite (fun c2 => EvP.some (hnil (Or.inr (fun g => by have := g.2; omega)))) (fun c2 => ?_))
    have hi : inT d.1 d.2 := ⟨by omega, by omega⟩
    have ez := h4 hr hi
    refine EvP.bind (EvP.of (texts_out (RT.of hr) hr hd.1 hi) (Q := fun x => x = z) ez.symm) (fun o e => EvP.some ?_)
    subst e
    exact beq_self_eq_true _

end Go.Proofs.Ytgneacekgbjkkaa.Pure
