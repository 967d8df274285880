/- The program's AttrsOk gives, for all attributes, what the reference's gives, and leaves the attributes as they were. Conditions: none beyond the row's own. -/
import Derived.Test.YtplgbnalflpdhaaRows
import Derived.Test.YtplgbnalflpdhaaWOpens
import Derived.WalkKit
import Derived.ProofKit
import Derived.OpenShut
import Derived.ShutString
import Derived.ChangeOld
import Derived.Below
import Derived.SizedLaws
import Derived.Test.YtplgbnalflpdhaaWFacts
import Derived.Test.YtplgbnalflpdhaaKFnExactAttrsOkPure
/- The row of the law FnExactAttrsOk, out of its plain statement and the printed walk. Conditions: none beyond the row's own. -/
namespace Go.Proofs.Ytplgbnalflpdhaa.fnExactAttrsOk
open Go.ChangeShapes Go.WideShapes Go.ChangeAt Go.RowKit Go.Proofs.YtplgbnalflpdhaaW.PrintWords Go.Proofs.YtplgbnalflpdhaaW.PrintLast Go.Proofs.YtplgbnalflpdhaaW.PrintMore
open Go.ChangeMaps (open_string shut_string)
set_option linter.unusedVariables false
theorem own : ownKnob Try.prog.godebug = none := by kernel_rfl
theorem laidOut : laidOutB Try.prog = true := by kernel_rfl
set_option maxRecDepth 100000 in
theorem lifted (os : Os) (started : os.Started) (H : Type) (enc : TypeId × Value → H) :
    ReturnsInHanded {} Try.checked os 25 .any (Rows.fnExactAttrsOkSpec.pre6 enc Try.prog Try.f25 Rows.fnExactAttrsOkRow.domain false) (Rows.fnExactAttrsOkSpec.post enc Try.prog Try.f25 false true false false) := by
  refine returnsInHanded_of_change_sized (C := Try.checked) own started (by kernel_rfl) Try.func25
    (ChangeSpec.witness6 (enc := enc) (C := Try.checked) false ⟨#[], #[.slice none 0 0], []⟩ 8 (by kernel_rfl) (by kernel_rfl) (by kernel_rfl) (by kernel_rfl)) ?_
  intro W base args ds gs before hval0 hW hcnd hsz0 _
  have hsz : (DataW.weightsEach Try.prog (Try.f25.params.toList ++ Rows.fnExactAttrsOkSpec.plain.varTypes Try.prog) (ds ++ gs)).all (· ≤ reachBytes) = true := hsz0
  have hval : ∀ (j : Nat) t v, Try.f25.params[j]? = some t → args[j]? = some v → Value.okWide Try.prog W .any base t v := hval0
  have hW' := hW
  obtain ⟨p, q, hA0, hV, rfl, hfz, hnd⟩ := hW
  have hA : DataW.TrodAll enc Try.prog W 0 (fun _ => true) true Try.f25.params.toList args.toList ds p := hA0
  rw [Try.params25] at hA hval hsz
  obtain ⟨v0, vs0, d0, ds0, p0, q0, hargs, rfl, rfl, h0, r0⟩ := trodAll_cons hA
  obtain ⟨rfl, rfl, rfl⟩ := trodAll_nil r0
  obtain rfl : args = #[v0] := by cases args; simp_all
  obtain ⟨rfl, rfl⟩ := trodVars_none hV
  obtain ⟨a0, len0, cap0, rfl⟩ := okWide_slice Try.underlying45 (hval 0 45 v0 rfl rfl)
  have k0 := h0
  have lt0 : ∀ x ∈ p0, x.block < W.heap.size := by obtain ⟨m, hm⟩ := k0; exact DataW.trod_lt m _ _ _ hm
  obtain ⟨l0, rfl, hC0, hle0, hm0, hw0⟩ := X.opens_arg Try.underlying45 (X.opens_iso (d := (Kd.pair Kd.string Kd.string)) (f := (fun x : X.S73 => (x.f0, x.f1))) (fun p => ⟨p.1, p.2⟩) (fun _ => rfl) (X.opens_struct Try.underlying73 (X.opensF_cons (X.opens_string Try.underlying9) rfl (by kernel_rfl) (X.opensF_one (X.opens_string Try.underlying9) rfl (by kernel_rfl))) (by kernel_rfl))) (by kernel_rfl) h0
  clear hA0 hval0 hsz0 hsz
  obtain ⟨k, hk⟩ := Pure.FnExactAttrsOk l0 ⟨hm0, hw0⟩
  refine (X.laws_FnExactAttrsOk.calls k _ _ l0 true W hC0 hle0 hk).mono fun e W' ⟨he, bel⟩ => ?_
  subst he
  exact ⟨_, rfl, _, _, _, [], _, [], hW', trodAll_mk1 (shut_bool Try.underlying4 _), (trodAll_cons_mk (Below.trod laidOut (by kernel_rfl) (of_decide_eq_true (by kernel_rfl)) k0 bel lt0) trodAll_mk0), rfl, bel.frame _, fun h => by cases h⟩
theorem over : Rows.fnExactAttrsOkRow.holds Try.pinned (OpenSpec.ofChange Rows.fnExactAttrsOkSpec) :=
  OpenClaim.holds_of_wide 25 Try.f25 rfl rfl rfl rfl rfl rfl rfl ⟨rfl, rfl, rfl, rfl, rfl⟩ rfl rfl rfl rfl rfl (by kernel_rfl) Try.func25 (Facts.joined (by kernel_rfl) (by kernel_rfl) (by kernel_rfl) rfl rfl (by kernel_rfl) (by kernel_rfl) (by kernel_rfl) (by kernel_rfl) (by kernel_rfl) (by kernel_rfl) (by kernel_rfl) (by kernel_rfl) (by kernel_rfl) (by kernel_rfl) (by kernel_rfl) (by kernel_rfl) (by kernel_rfl) rfl rfl rfl rfl (by kernel_rfl) (by kernel_rfl) (by kernel_rfl) (by kernel_rfl))
    (of_decide_eq_true (by kernel_rfl)) (by unfold Func.isWrapper; first | (rw [if_pos (by decide +kernel)]; kernel_rfl) | (rw [if_neg (by decide +kernel)]; exact ⟨rfl, rfl⟩))
    (fun os started H enc _ => lifted os started H enc)
theorem proved : Rows.FnExactAttrsOkSaid := over
end Go.Proofs.Ytplgbnalflpdhaa.fnExactAttrsOk
namespace Go.Proofs.Ytplgbnalflpdhaa
/-- The row, under a short name, for the claim. -/
theorem fnExactAttrsOk_holds : Rows.FnExactAttrsOkSaid := fnExactAttrsOk.proved
end Go.Proofs.Ytplgbnalflpdhaa
