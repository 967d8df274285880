/- The program's TokenOk gives, for every token, what the reference's gives, and leaves the token as it was. Conditions: none beyond the row's own. -/
import Derived.Test.YtplgbnalflpdhaaRows
import Derived.Test.YtplgbnalflpdhaaKFnExactTokenOkw1
import Derived.WalkKit
import Derived.ProofKit
import Derived.OpenShut
import Derived.ShutString
import Derived.ChangeOld
import Derived.Below
import Derived.SizedLaws
import Derived.Test.YtplgbnalflpdhaaWFacts
import Derived.Test.YtplgbnalflpdhaaKFnExactTokenOkPure
/- The row of the law FnExactTokenOk, out of its plain statement and the printed walk. Conditions: none beyond the row's own. -/
namespace Go.Proofs.Ytplgbnalflpdhaa.fnExactTokenOk
open Go.ChangeShapes Go.WideShapes Go.ChangeAt Go.RowKit Go.Proofs.YtplgbnalflpdhaaW.PrintWords Go.Proofs.YtplgbnalflpdhaaW.PrintLast Go.Proofs.YtplgbnalflpdhaaW.PrintMore
open Go.ChangeMaps (open_string shut_string)
set_option linter.unusedVariables false
theorem own : ownKnob Try.prog.godebug = none := by kernel_rfl
theorem laidOut : laidOutB Try.prog = true := by kernel_rfl
set_option maxRecDepth 100000 in
theorem lifted (os : Os) (started : os.Started) (H : Type) (enc : TypeId × Value → H) :
    ReturnsInHanded {} Try.checked os 31 .any (Rows.fnExactTokenOkSpec.pre6 enc Try.prog Try.f31 Rows.fnExactTokenOkRow.domain false) (Rows.fnExactTokenOkSpec.post enc Try.prog Try.f31 false true false false) := by
  refine returnsInHanded_of_change_sized (C := Try.checked) own started (by kernel_rfl) Try.func31
    (ChangeSpec.witness6 (enc := enc) (C := Try.checked) false ⟨#[], #[.agg #[.int .i64 0, .string ByteArray.empty, .slice none 0 0, .string ByteArray.empty, .bool false]], []⟩ 8 (by kernel_rfl) (by kernel_rfl) (by kernel_rfl) (by kernel_rfl)) ?_
  intro W base args ds gs before hval0 hW hcnd hsz0 _
  have hsz : (DataW.weightsEach Try.prog (Try.f31.params.toList ++ Rows.fnExactTokenOkSpec.plain.varTypes Try.prog) (ds ++ gs)).all (· ≤ reachBytes) = true := hsz0
  have hval : ∀ (j : Nat) t v, Try.f31.params[j]? = some t → args[j]? = some v → Value.okWide Try.prog W .any base t v := hval0
  have hW' := hW
  obtain ⟨p, q, hA0, hV, rfl, hfz, hnd⟩ := hW
  have hA : DataW.TrodAll enc Try.prog W 0 (fun _ => true) true Try.f31.params.toList args.toList ds p := hA0
  rw [Try.params31] at hA hval hsz
  obtain ⟨v0, vs0, d0, ds0, p0, q0, hargs, rfl, rfl, h0, r0⟩ := trodAll_cons hA
  obtain ⟨rfl, rfl, rfl⟩ := trodAll_nil r0
  obtain rfl : args = #[v0] := by cases args; simp_all
  obtain ⟨rfl, rfl⟩ := trodVars_none hV
  obtain ⟨cs0, rfl, _⟩ := okWide_struct Try.underlying87 (hval 0 87 v0 rfl rfl)
  have k0 := h0
  have lt0 : ∀ x ∈ p0, x.block < W.heap.size := by obtain ⟨m, hm⟩ := k0; exact DataW.trod_lt m _ _ _ hm
  obtain ⟨v0_, hK0, hw0⟩ : ∃ v, ((Kd.pair (Kd.int .i64) (Kd.pair Kd.string (Kd.pair (Kd.slice 73 X.k73) (Kd.pair Kd.string Kd.bool))))).K W v cs0.toList ∧ (((Lit.int .i64 (v.1)).wf = true) ∧ ((v.2.1).size ≤ maxLen) ∧ (((v.2.2.1).length ≤ maxLen ∧ ∀ x0 ∈ v.2.2.1, (((x0).f0).size ≤ maxLen) ∧ (((x0).f1).size ≤ maxLen))) ∧ ((v.2.2.2.1).size ≤ maxLen) ∧ (True)) := by
    obtain ⟨fuel, hf⟩ := h0
    exact (X.opens_struct Try.underlying87 (X.opensF_cons (X.opens_int Try.underlying3) rfl (by kernel_rfl) (X.opensF_cons (X.opens_string Try.underlying9) rfl (by kernel_rfl) (X.opensF_cons (X.opens_slice Try.underlying45 (X.opens_iso (d := (Kd.pair Kd.string Kd.string)) (f := (fun x : X.S73 => (x.f0, x.f1))) (fun p => ⟨p.1, p.2⟩) (fun _ => rfl) (X.opens_struct Try.underlying73 (X.opensF_cons (X.opens_string Try.underlying9) rfl (by kernel_rfl) (X.opensF_one (X.opens_string Try.underlying9) rfl (by kernel_rfl))) (by kernel_rfl))) (by kernel_rfl)) rfl (by kernel_rfl) (X.opensF_cons (X.opens_string Try.underlying9) rfl (by kernel_rfl) (X.opensF_one (X.opens_bool Try.underlying4) rfl (by kernel_rfl)))))) (by kernel_rfl)) H enc W 0 _ _ fuel _ _ hf
  obtain ⟨x0_0, y0_0, g0_0, e0_0, ⟨x0_1, y0_1, g0_1, e0_1, ⟨x0_2, y0_2, g0_2, ⟨A0_2, c0_2, e0_2, hle0_2, hC0_2⟩, ⟨x0_3, y0_3, g0_3, e0_3, e0_4⟩⟩⟩⟩ := hK0
  replace e0_0 : x0_0 = [(.int .i64 (v0_.1))] := e0_0
  replace e0_1 : x0_1 = [(.string (v0_.2.1))] := e0_1
  replace e0_2 : x0_2 = [(.slice A0_2 (v0_.2.2.1).length c0_2)] := e0_2
  replace e0_3 : x0_3 = [(.string (v0_.2.2.2.1))] := e0_3
  replace e0_4 : y0_3 = [(.bool (v0_.2.2.2.2))] := e0_4
  have hcs0 : cs0 = #[(.int .i64 (v0_.1)), (.string (v0_.2.1)), (.slice A0_2 (v0_.2.2.1).length c0_2), (.string (v0_.2.2.2.1)), (.bool (v0_.2.2.2.2))] := by
    apply Array.toList_inj.mp
    rw [g0_0, g0_1, g0_2, g0_3, e0_0, e0_1, e0_2, e0_3, e0_4]
    rfl
  subst hcs0
  clear hA0 hval0 hsz0 hsz
  obtain ⟨k, hk⟩ := Pure.FnExactTokenOk (v0_.1) (v0_.2.1) (v0_.2.2.1) (v0_.2.2.2.1) (v0_.2.2.2.2) hw0
  refine (X.laws_FnExactTokenOk.calls k (v0_.1) (v0_.2.1) _ _ (v0_.2.2.1) (v0_.2.2.2.1) (v0_.2.2.2.2) true W hC0_2 hle0_2 hk).mono fun e W' ⟨he, bel⟩ => ?_
  subst he
  exact ⟨_, rfl, _, _, _, [], _, [], hW', trodAll_mk1 (shut_bool Try.underlying4 _), (trodAll_cons_mk (Below.trod laidOut (by kernel_rfl) (of_decide_eq_true (by kernel_rfl)) k0 bel lt0) trodAll_mk0), rfl, bel.frame _, fun h => by cases h⟩
theorem over : Rows.fnExactTokenOkRow.holds Try.pinned (OpenSpec.ofChange Rows.fnExactTokenOkSpec) :=
  OpenClaim.holds_of_wide 31 Try.f31 rfl rfl rfl rfl rfl rfl rfl ⟨rfl, rfl, rfl, rfl, rfl⟩ rfl rfl rfl rfl rfl (by kernel_rfl) Try.func31 (Facts.joined (by kernel_rfl) (by kernel_rfl) (by kernel_rfl) rfl rfl (by kernel_rfl) (by kernel_rfl) (by kernel_rfl) (by kernel_rfl) (by kernel_rfl) (by kernel_rfl) (by kernel_rfl) (by kernel_rfl) (by kernel_rfl) (by kernel_rfl) (by kernel_rfl) (by kernel_rfl) (by kernel_rfl) rfl rfl rfl rfl (by kernel_rfl) (by kernel_rfl) (by kernel_rfl) (by kernel_rfl))
    (of_decide_eq_true (by kernel_rfl)) (by unfold Func.isWrapper; first | (rw [if_pos (by decide +kernel)]; kernel_rfl) | (rw [if_neg (by decide +kernel)]; exact ⟨rfl, rfl⟩))
    (fun os started H enc _ => lifted os started H enc)
theorem proved : Rows.FnExactTokenOkSaid := over
end Go.Proofs.Ytplgbnalflpdhaa.fnExactTokenOk
namespace Go.Proofs.Ytplgbnalflpdhaa
/-- The row, under a short name, for the claim. -/
theorem fnExactTokenOk_holds : Rows.FnExactTokenOkSaid := fnExactTokenOk.proved
end Go.Proofs.Ytplgbnalflpdhaa
