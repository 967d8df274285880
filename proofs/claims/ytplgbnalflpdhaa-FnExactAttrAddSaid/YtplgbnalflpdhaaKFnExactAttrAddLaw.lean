/- The program's AttrAdd gives, for all attributes and every further one, what the reference's gives, leaves the attributes as they were, and gives new memory each time. Conditions: none beyond the row's own. -/
import Derived.Test.YtplgbnalflpdhaaRows
import Derived.Test.YtplgbnalflpdhaaKFnExactAttrAddw1
import Derived.WalkKit
import Derived.ProofKit
import Derived.OpenShut
import Derived.ShutString
import Derived.ChangeOld
import Derived.Below
import Derived.SizedLaws
import Derived.Test.YtplgbnalflpdhaaWFacts
import Derived.Test.YtplgbnalflpdhaaKFnExactAttrAddPure
/- The row of the law FnExactAttrAdd, out of its plain statement and the printed walk. Conditions: none beyond the row's own. -/
namespace Go.Proofs.Ytplgbnalflpdhaa.fnExactAttrAdd
open Go.ChangeShapes Go.WideShapes Go.ChangeAt Go.RowKit Go.Proofs.YtplgbnalflpdhaaW.PrintWords Go.Proofs.YtplgbnalflpdhaaW.PrintLast Go.Proofs.YtplgbnalflpdhaaW.PrintMore
open Go.ChangeMaps (open_string shut_string)
set_option linter.unusedVariables false
theorem own : ownKnob Try.prog.godebug = none := by kernel_rfl
theorem laidOut : laidOutB Try.prog = true := by kernel_rfl
set_option maxRecDepth 100000 in
theorem lifted (os : Os) (started : os.Started) (H : Type) (enc : TypeId × Value → H) :
    ReturnsInHanded {} Try.checked os 27 .any (Rows.fnExactAttrAddSpec.pre6 enc Try.prog Try.f27 Rows.fnExactAttrAddRow.domain false) (Rows.fnExactAttrAddSpec.post enc Try.prog Try.f27 false true false false) := by
  refine returnsInHanded_of_change_sized (C := Try.checked) own started (by kernel_rfl) Try.func27
    (ChangeSpec.witness6 (enc := enc) (C := Try.checked) false ⟨#[], #[.slice none 0 0, .agg #[.string ByteArray.empty, .string ByteArray.empty]], []⟩ 8 (by kernel_rfl) (by kernel_rfl) (by kernel_rfl) (by kernel_rfl)) ?_
  intro W base args ds gs before hval0 hW hcnd hsz0 _
  have hsz : (DataW.weightsEach Try.prog (Try.f27.params.toList ++ Rows.fnExactAttrAddSpec.plain.varTypes Try.prog) (ds ++ gs)).all (· ≤ reachBytes) = true := hsz0
  have hval : ∀ (j : Nat) t v, Try.f27.params[j]? = some t → args[j]? = some v → Value.okWide Try.prog W .any base t v := hval0
  have hW' := hW
  obtain ⟨p, q, hA0, hV, rfl, hfz, hnd⟩ := hW
  have hA : DataW.TrodAll enc Try.prog W 0 (fun _ => true) true Try.f27.params.toList args.toList ds p := hA0
  rw [Try.params27] at hA hval hsz
  obtain ⟨v0, vs0, d0, ds0, p0, q0, hargs, rfl, rfl, h0, r0⟩ := trodAll_cons hA
  obtain ⟨v1, vs1, d1, ds1, p1, q1, rfl, rfl, rfl, h1, r1⟩ := trodAll_cons r0
  obtain ⟨rfl, rfl, rfl⟩ := trodAll_nil r1
  obtain rfl : args = #[v0, v1] := by cases args; simp_all
  obtain ⟨rfl, rfl⟩ := trodVars_none hV
  obtain ⟨a0, len0, cap0, rfl⟩ := okWide_slice Try.underlying45 (hval 0 45 v0 rfl rfl)
  have k0 := h0
  have lt0 : ∀ x ∈ p0, x.block < W.heap.size := by obtain ⟨m, hm⟩ := k0; exact DataW.trod_lt m _ _ _ hm
  obtain ⟨l0, rfl, hC0, hle0, hm0, hw0⟩ := X.opens_arg Try.underlying45 (X.opens_iso (d := (Kd.pair Kd.string Kd.string)) (f := (fun x : X.S73 => (x.f0, x.f1))) (fun p => ⟨p.1, p.2⟩) (fun _ => rfl) (X.opens_struct Try.underlying73 (X.opensF_cons (X.opens_string Try.underlying9) rfl (by kernel_rfl) (X.opensF_one (X.opens_string Try.underlying9) rfl (by kernel_rfl))) (by kernel_rfl))) (by kernel_rfl) h0
  obtain ⟨cs1, rfl, _⟩ := okWide_struct Try.underlying73 (hval 1 73 v1 rfl rfl)
  have k1 := h1
  have lt1 : ∀ x ∈ p1, x.block < W.heap.size := by obtain ⟨m, hm⟩ := k1; exact DataW.trod_lt m _ _ _ hm
  obtain ⟨v1_, hK1, hw1⟩ : ∃ v, ((Kd.pair Kd.string Kd.string)).K W v cs1.toList ∧ (((v.1).size ≤ maxLen) ∧ ((v.2).size ≤ maxLen)) := by
    obtain ⟨fuel, hf⟩ := h1
    exact (X.opens_struct Try.underlying73 (X.opensF_cons (X.opens_string Try.underlying9) rfl (by kernel_rfl) (X.opensF_one (X.opens_string Try.underlying9) rfl (by kernel_rfl))) (by kernel_rfl)) H enc W 0 _ _ fuel _ _ hf
  obtain ⟨x1_0, y1_0, g1_0, e1_0, e1_1⟩ := hK1
  replace e1_0 : x1_0 = [(.string (v1_.1))] := e1_0
  replace e1_1 : y1_0 = [(.string (v1_.2))] := e1_1
  have hcs1 : cs1 = #[(.string (v1_.1)), (.string (v1_.2))] := by
    apply Array.toList_inj.mp
    rw [g1_0, e1_0, e1_1]
    rfl
  subst hcs1
  clear hA0 hval0 hsz0 hsz
  obtain ⟨k, hk⟩ := Pure.FnExactAttrAdd l0 (v1_.1) (v1_.2) ⟨hm0, hw0⟩ hw1
  refine (X.laws_FnExactAttrAdd.calls k _ _ l0 (v1_.1) (v1_.2) true W hC0 hle0 hk).mono fun e W' ⟨he, bel⟩ => ?_
  subst he
  exact ⟨_, rfl, _, _, _, [], _, [], hW', trodAll_mk1 (shut_bool Try.underlying4 _), (trodAll_cons_mk (Below.trod laidOut (by kernel_rfl) (of_decide_eq_true (by kernel_rfl)) k0 bel lt0) (trodAll_cons_mk (Below.trod laidOut (by kernel_rfl) (of_decide_eq_true (by kernel_rfl)) k1 bel lt1) trodAll_mk0)), rfl, bel.frame _, fun h => by cases h⟩
theorem over : Rows.fnExactAttrAddRow.holds Try.pinned (OpenSpec.ofChange Rows.fnExactAttrAddSpec) :=
  OpenClaim.holds_of_wide 27 Try.f27 rfl rfl rfl rfl rfl rfl rfl ⟨rfl, rfl, rfl, rfl, rfl⟩ rfl rfl rfl rfl rfl (by kernel_rfl) Try.func27 (Facts.joined (by kernel_rfl) (by kernel_rfl) (by kernel_rfl) rfl rfl (by kernel_rfl) (by kernel_rfl) (by kernel_rfl) (by kernel_rfl) (by kernel_rfl) (by kernel_rfl) (by kernel_rfl) (by kernel_rfl) (by kernel_rfl) (by kernel_rfl) (by kernel_rfl) (by kernel_rfl) (by kernel_rfl) rfl rfl rfl rfl (by kernel_rfl) (by kernel_rfl) (by kernel_rfl) (by kernel_rfl))
    (of_decide_eq_true (by kernel_rfl)) (by unfold Func.isWrapper; first | (rw [if_pos (by decide +kernel)]; kernel_rfl) | (rw [if_neg (by decide +kernel)]; exact ⟨rfl, rfl⟩))
    (fun os started H enc _ => lifted os started H enc)
theorem proved : Rows.FnExactAttrAddSaid := over
end Go.Proofs.Ytplgbnalflpdhaa.fnExactAttrAdd
namespace Go.Proofs.Ytplgbnalflpdhaa
/-- The row, under a short name, for the claim. -/
theorem fnExactAttrAdd_holds : Rows.FnExactAttrAddSaid := fnExactAttrAdd.proved
end Go.Proofs.Ytplgbnalflpdhaa
