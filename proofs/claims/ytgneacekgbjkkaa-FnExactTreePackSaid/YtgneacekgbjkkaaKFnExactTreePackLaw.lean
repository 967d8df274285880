/- The program's TreePack gives, for every tree, what the reference's gives, leaves the tree as it was, and gives new memory each time. Conditions: none beyond the row's own. -/
import Derived.Test.YtgneacekgbjkkaaRows
import Derived.Test.YtgneacekgbjkkaaKFnExactTreePackw1
import Derived.WalkKit
import Derived.ProofKit
import Derived.OpenShut
import Derived.ShutString
import Derived.ChangeOld
import Derived.Below
import Derived.SizedLaws
import Derived.Test.YtgneacekgbjkkaaWFacts
import Derived.Test.YtgneacekgbjkkaaKFnExactTreePackPure
/- The row of the law FnExactTreePack, out of its plain statement and the printed walk. Conditions: none beyond the row's own. -/
namespace Go.Proofs.Ytgneacekgbjkkaa.fnExactTreePack
open Go.ChangeShapes Go.WideShapes Go.ChangeAt Go.RowKit Go.Proofs.YtgneacekgbjkkaaW.PrintWords Go.Proofs.YtgneacekgbjkkaaW.PrintLast Go.Proofs.YtgneacekgbjkkaaW.PrintMore
open Go.ChangeMaps (open_string shut_string)
set_option linter.unusedVariables false
theorem own : ownKnob Try.prog.godebug = none := by kernel_rfl
theorem laidOut : laidOutB Try.prog = true := by kernel_rfl
set_option maxRecDepth 100000 in
theorem lifted (os : Os) (started : os.Started) (H : Type) (enc : TypeId × Value → H) :
    ReturnsInHanded {} Try.checked os 9 .any (Rows.fnExactTreePackSpec.pre6 enc Try.prog Try.f9 Rows.fnExactTreePackRow.domain false) (Rows.fnExactTreePackSpec.post enc Try.prog Try.f9 false true false false) := by
  refine returnsInHanded_of_change_sized (C := Try.checked) own started (by kernel_rfl) Try.func9
    (ChangeSpec.witness6 (enc := enc) (C := Try.checked) false ⟨#[], #[.agg #[.slice none 0 0]], []⟩ 8 (by kernel_rfl) (by kernel_rfl) (by kernel_rfl) (by kernel_rfl)) ?_
  intro W base args ds gs before hval0 hW hcnd hsz0 _
  have hsz : (DataW.weightsEach Try.prog (Try.f9.params.toList ++ Rows.fnExactTreePackSpec.plain.varTypes Try.prog) (ds ++ gs)).all (· ≤ reachBytes) = true := hsz0
  have hval : ∀ (j : Nat) t v, Try.f9.params[j]? = some t → args[j]? = some v → Value.okWide Try.prog W .any base t v := hval0
  have hW' := hW
  obtain ⟨p, q, hA0, hV, rfl, hfz, hnd⟩ := hW
  have hA : DataW.TrodAll enc Try.prog W 0 (fun _ => true) true Try.f9.params.toList args.toList ds p := hA0
  rw [Try.params9] at hA hval hsz
  obtain ⟨v0, vs0, d0, ds0, p0, q0, hargs, rfl, rfl, h0, r0⟩ := trodAll_cons hA
  obtain ⟨rfl, rfl, rfl⟩ := trodAll_nil r0
  obtain rfl : args = #[v0] := by cases args; simp_all
  obtain ⟨rfl, rfl⟩ := trodVars_none hV
  obtain ⟨cs0, rfl, _⟩ := okWide_struct Try.underlying24 (hval 0 24 v0 rfl rfl)
  have k0 := h0
  have lt0 : ∀ x ∈ p0, x.block < W.heap.size := by obtain ⟨m, hm⟩ := k0; exact DataW.trod_lt m _ _ _ hm
  obtain ⟨v0_, hK0, hw0⟩ : ∃ v, ((Kd.slice 39 X.k39)).K W v cs0.toList ∧ ((((v).length ≤ maxLen ∧ ∀ x0 ∈ v, ((Lit.int .i64 ((x0).f0)).wf = true) ∧ (((x0).f1).size ≤ maxLen) ∧ ((((x0).f2).length ≤ maxLen ∧ ∀ x1 ∈ (x0).f2, (((x1).f0).size ≤ maxLen) ∧ (((x1).f1).size ≤ maxLen))) ∧ (((x0).f3).size ≤ maxLen) ∧ ((Lit.int .i64 ((x0).f4)).wf = true) ∧ ((((x0).f5).length ≤ maxLen ∧ ∀ x1 ∈ (x0).f5, (Lit.int .i64 (x1)).wf = true))))) := by
    obtain ⟨fuel, hf⟩ := h0
    exact (X.opens_struct Try.underlying24 (X.opensF_one (X.opens_slice Try.underlying22 (X.opens_iso (d := (Kd.pair (Kd.int .i64) (Kd.pair Kd.string (Kd.pair (Kd.slice 111 X.k111) (Kd.pair Kd.string (Kd.pair (Kd.int .i64) (Kd.slice 3 (Kd.int .i64)))))))) (f := (fun x : X.S39 => (x.f0, x.f1, x.f2, x.f3, x.f4, x.f5))) (fun p => ⟨p.1, p.2.1, p.2.2.1, p.2.2.2.1, p.2.2.2.2.1, p.2.2.2.2.2⟩) (fun _ => rfl) (X.opens_struct Try.underlying39 (X.opensF_cons (X.opens_int Try.underlying3) rfl (by kernel_rfl) (X.opensF_cons (X.opens_string Try.underlying9) rfl (by kernel_rfl) (X.opensF_cons (X.opens_slice Try.underlying36 (X.opens_iso (d := (Kd.pair Kd.string Kd.string)) (f := (fun x : X.S111 => (x.f0, x.f1))) (fun p => ⟨p.1, p.2⟩) (fun _ => rfl) (X.opens_struct Try.underlying111 (X.opensF_cons (X.opens_string Try.underlying9) rfl (by kernel_rfl) (X.opensF_one (X.opens_string Try.underlying9) rfl (by kernel_rfl))) (by kernel_rfl))) (by kernel_rfl)) rfl (by kernel_rfl) (X.opensF_cons (X.opens_string Try.underlying9) rfl (by kernel_rfl) (X.opensF_cons (X.opens_int Try.underlying3) rfl (by kernel_rfl) (X.opensF_one (X.opens_slice Try.underlying37 (X.opens_int Try.underlying3) (by kernel_rfl)) rfl (by kernel_rfl))))))) (by kernel_rfl))) (by kernel_rfl)) rfl (by kernel_rfl)) (by kernel_rfl)) H enc W 0 _ _ fuel _ _ hf
  obtain ⟨A0_0, c0_0, e0_0, hle0_0, hC0_0⟩ := hK0
  replace e0_0 : cs0.toList = [(.slice A0_0 (v0_).length c0_0)] := e0_0
  have hcs0 : cs0 = #[(.slice A0_0 (v0_).length c0_0)] := by
    apply Array.toList_inj.mp
    rw [e0_0]
    first | done | rfl
  subst hcs0
  clear hA0 hval0 hsz0 hsz
  obtain ⟨k, hk⟩ := Pure.FnExactTreePack (v0_) hw0
  refine (X.laws_FnExactTreePack.calls k _ _ (v0_) true W hC0_0 hle0_0 hk).mono fun e W' ⟨he, bel⟩ => ?_
  subst he
  exact ⟨_, rfl, _, _, _, [], _, [], hW', trodAll_mk1 (shut_bool Try.underlying4 _), (trodAll_cons_mk (Below.trod laidOut (by kernel_rfl) (of_decide_eq_true (by kernel_rfl)) k0 bel lt0) trodAll_mk0), rfl, bel.frame _, fun h => by cases h⟩
theorem over : Rows.fnExactTreePackRow.holds Try.pinned (OpenSpec.ofChange Rows.fnExactTreePackSpec) :=
  OpenClaim.holds_of_wide 9 Try.f9 rfl rfl rfl rfl rfl rfl rfl ⟨rfl, rfl, rfl, rfl, rfl⟩ rfl rfl rfl rfl rfl (by kernel_rfl) Try.func9 (Facts.joined (by kernel_rfl) (by kernel_rfl) (by kernel_rfl) rfl rfl (by kernel_rfl) (by kernel_rfl) (by kernel_rfl) (by kernel_rfl) (by kernel_rfl) (by kernel_rfl) (by kernel_rfl) (by kernel_rfl) (by kernel_rfl) (by kernel_rfl) (by kernel_rfl) (by kernel_rfl) (by kernel_rfl) rfl rfl rfl rfl (by kernel_rfl) (by kernel_rfl) (by kernel_rfl) (by kernel_rfl))
    (of_decide_eq_true (by kernel_rfl)) (by unfold Func.isWrapper; first | (rw [if_pos (by decide +kernel)]; kernel_rfl) | (rw [if_neg (by decide +kernel)]; exact ⟨rfl, rfl⟩))
    (fun os started H enc _ => lifted os started H enc)
theorem proved : Rows.FnExactTreePackSaid := over
end Go.Proofs.Ytgneacekgbjkkaa.fnExactTreePack
namespace Go.Proofs.Ytgneacekgbjkkaa
/-- The row, under a short name, for the claim. -/
theorem fnExactTreePack_holds : Rows.FnExactTreePackSaid := fnExactTreePack.proved
end Go.Proofs.Ytgneacekgbjkkaa
