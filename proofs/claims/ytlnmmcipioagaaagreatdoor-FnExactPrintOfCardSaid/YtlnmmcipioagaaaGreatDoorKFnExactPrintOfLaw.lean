/- The program's PrintOf gives, for every tree, what the reference's gives, and leaves the tree as it was. Conditions: none beyond the row's own. -/
import Derived.Test.YtlnmmcipioagaaaGreatDoorRows
import Derived.Test.YtlnmmcipioagaaaGreatDoorCards
import Derived.Test.YtlnmmcipioagaaaGreatDoorTie
import Derived.Test.YtlnmmcipioagaaaGreatDoorKFnExactPrintOfw1
import Derived.WalkKit
import Derived.ProofKit
import Derived.OpenShut
import Derived.ShutString
import Derived.ChangeOld
import Derived.Below
import Derived.HandedShaped
import Derived.Handed
import Derived.Lay
import Derived.LaidOnce
import Derived.SevenTiedAt
import Derived.Test.YtlnmmcipioagaaaGreatDoorKFnExactPrintOfPure
/- The row of the law FnExactPrintOf, out of its plain statement and the walk, and its tied card. Conditions: none beyond the row's own. -/
namespace Go.Proofs.YtlnmmcipioagaaaGreatDoor.fnExactPrintOf
open Go.ChangeShapes Go.WideShapes Go.ChangeAt Go.RowKit Go.Proofs.YtlnmmcipioagaaaGreatDoorW.PrintWords Go.Proofs.YtlnmmcipioagaaaGreatDoorW.PrintLast Go.Proofs.YtlnmmcipioagaaaGreatDoorW.PrintMore
open Go.ChangeMaps (open_string shut_string)
set_option linter.unusedVariables false
/-- The plain wrap, both the listed variables' data and the world's shape handed on. -/
theorem change_both {H : Type} {enc : TypeId × Value → H} {a : Assume} {C : Checked} {os : Os} {f : FuncId} {fn : Func} {s : ChangeSpec} {conds : List PathCond} {apart fresh handsOn again : Bool} {X : World → Array Value → Prop}
    (hX : ∀ (w w' : World) (args : Array Value), w.heap = w'.heap → X w args → X w' args)
    (own : ownKnob C.prog.godebug = none) (started : os.Started) (noInit : C.prog.inits.idxOf? f = none) (hfn : C.prog.funcs[f]? = some fn)
    (witness : ∃ (w : World) (tape : Tape) (i : Input), w.os = os ∧ (w.forCall tape i).Shaped C.prog ∧ i.vars = [] ∧ Input.okWide C.prog (w.forCall tape i) .any w.heap.size f i ∧
      ((s.pre enc C.prog fn conds apart (w.forCall tape i).memory i.args ∧ X (w.forCall tape i).memory i.args) ∧ sizedMet enc C.prog fn (OpenSpec.ofChange s) apart (w.forCall tape i).memory i.args) ∧ a.holds C.prog (lone (Frame.enter C.prog f i.args .normal) [] (w.forCall tape i)))
    (contract : ∀ (W : World) (base : Nat) (args : Array Value) (ds gs : List (DataW H)) (before : List MemPlace),
      (∀ (j : Nat) t v, fn.params[j]? = some t → args[j]? = some v → Value.okWide C.prog W .any base t v) →
      DataW.Whole enc C.prog fn.params.toList s.vars apart W args.toList ds gs before → W.ShapedOpen C.prog →
      Calls C.prog f args W fun e W' => ∃ v, e = .returned v ∧ s.post enc C.prog fn apart fresh handsOn again W args v W') :
    ReturnsInHanded a C os f .any (fun w args => (s.pre enc C.prog fn conds apart w args ∧ X w args) ∧ sizedMet enc C.prog fn (OpenSpec.ofChange s) apart w args) (s.post enc C.prog fn apart fresh handsOn again) := by
  refine returnsInHanded_of_calls own started noInit witness ?_
  intro w tape i _ hsh _ hok hpre hholds
  obtain ⟨_, _, _, fn', hfn', _, _, _, _, hval⟩ := hok
  have e : fn' = fn := Option.some.inj (hfn'.symm.trans hfn)
  subst e
  obtain ⟨⟨⟨ds, gs, before, hw, hc⟩, hx⟩, hz⟩ := hpre
  have hw' := DataW.Whole.of_heap (w' := w.forCall tape i) (by rfl) hw
  refine (contract (w.forCall tape i) w.heap.size i.args ds gs before hval hw' hsh).mono fun e W' ⟨v, he, hp⟩ => ?_
  subst he
  exact ChangeSpec.post_blind hp
theorem own : ownKnob Tryz.prog.godebug = none := by kernel_rfl
theorem laidOut : laidOutB Tryz.prog = true := by kernel_rfl
set_option maxRecDepth 100000 in
theorem lifted (os : Os) (started : os.Started) (H : Type) (enc : TypeId × Value → H) :
    ReturnsInHanded {} Tryz.checked os 3 .any (fun w args => (Rows.fnExactPrintOfSpec.pre enc Tryz.prog Tryz.f3 Rows.fnExactPrintOfRow.domain false w args ∧ laidMetH Tryz.prog Rows.fnExactPrintOfRow.laid w) ∧ sizedMet enc Tryz.prog Tryz.f3 (OpenSpec.ofChange Rows.fnExactPrintOfSpec) false w args)
      (Rows.fnExactPrintOfSpec.post enc Tryz.prog Tryz.f3 false true false false) := by
  refine change_both (C := Tryz.checked) (X := fun w _ => laidMetH Tryz.prog Rows.fnExactPrintOfRow.laid w) (fun _ _ _ hh h => h.of_heap hh) own started (by kernel_rfl) Tryz.func3
    (ChangeSpec.witness_shaped (enc := enc) (C := Tryz.checked) (os := os) (X := fun w _ => laidMetH Tryz.prog Rows.fnExactPrintOfRow.laid w) false (World.laidAll Tryz.prog os Rows.fnExactPrintOfRow.laid) #[.agg #[.slice none 0 0]] 8 (World.laidAll_os _ _ _)
      (World.shaped_of_ZipB (by kernel_rfl) (by kernel_rfl)) (by kernel_rfl) (by kernel_rfl) (by kernel_rfl)
      (by rw [MakeChecks.laidMetH_plain _ _ _ (by kernel_rfl)]; exact laidMet_laidAll _ (by kernel_rfl) (by kernel_rfl))) ?_
  intro W base args ds gs before hval0 hW hsh
  have hval : ∀ (j : Nat) t v, Tryz.f3.params[j]? = some t → args[j]? = some v → Value.okWide Tryz.prog W .any base t v := hval0
  have hW' := hW
  obtain ⟨p, q, hA0, hV, rfl, hfz, hnd⟩ := hW
  have hA : DataW.TrodAll enc Tryz.prog W 0 (fun _ => true) true Tryz.f3.params.toList args.toList ds p := hA0
  rw [Tryz.params3] at hA hval
  obtain ⟨v0, vs0, d0, ds0, p0, q0, hargs, rfl, rfl, h0, r0⟩ := trodAll_cons hA
  obtain ⟨rfl, rfl, rfl⟩ := trodAll_nil r0
  obtain rfl : args = #[v0] := by cases args; simp_all
  obtain ⟨rfl, rfl⟩ := trodVars_none hV
  obtain ⟨cs0, rfl, _⟩ := okWide_struct Tryz.underlying24 (hval 0 24 v0 rfl rfl)
  have k0 := h0
  have lt0 : ∀ x ∈ p0, x.block < W.heap.size := by obtain ⟨m, hm⟩ := k0; exact DataW.trod_lt m _ _ _ hm
  obtain ⟨v0_, hK0, hw0⟩ : ∃ v, ((Kd.slice 70 X.k70)).K W v cs0.toList ∧ ((((v).length ≤ maxLen ∧ ∀ x0 ∈ v, ((Lit.int .i64 ((x0).f0)).wf = true) ∧ (((x0).f1).size ≤ maxLen) ∧ ((((x0).f2).length ≤ maxLen ∧ ∀ x1 ∈ (x0).f2, (((x1).f0).size ≤ maxLen) ∧ (((x1).f1).size ≤ maxLen))) ∧ (((x0).f3).size ≤ maxLen) ∧ ((Lit.int .i64 ((x0).f4)).wf = true) ∧ ((((x0).f5).length ≤ maxLen ∧ ∀ x1 ∈ (x0).f5, (Lit.int .i64 (x1)).wf = true))))) := by
    obtain ⟨fuel, hf⟩ := h0
    exact (X.opens_struct Tryz.underlying24 (X.opensF_one (X.opens_slice Tryz.underlying22 (X.opens_iso (d := (Kd.pair (Kd.int .i64) (Kd.pair Kd.string (Kd.pair (Kd.slice 107 X.k107) (Kd.pair Kd.string (Kd.pair (Kd.int .i64) (Kd.slice 3 (Kd.int .i64)))))))) (f := (fun x : X.S70 => (x.f0, x.f1, x.f2, x.f3, x.f4, x.f5))) (fun p => ⟨p.1, p.2.1, p.2.2.1, p.2.2.2.1, p.2.2.2.2.1, p.2.2.2.2.2⟩) (fun _ => rfl) (X.opens_struct Tryz.underlying70 (X.opensF_cons (X.opens_int Tryz.underlying3) rfl (by kernel_rfl) (X.opensF_cons (X.opens_string Tryz.underlying9) rfl (by kernel_rfl) (X.opensF_cons (X.opens_slice Tryz.underlying68 (X.opens_iso (d := (Kd.pair Kd.string Kd.string)) (f := (fun x : X.S107 => (x.f0, x.f1))) (fun p => ⟨p.1, p.2⟩) (fun _ => rfl) (X.opens_struct Tryz.underlying107 (X.opensF_cons (X.opens_string Tryz.underlying9) rfl (by kernel_rfl) (X.opensF_one (X.opens_string Tryz.underlying9) rfl (by kernel_rfl))) (by kernel_rfl))) (by kernel_rfl)) rfl (by kernel_rfl) (X.opensF_cons (X.opens_string Tryz.underlying9) rfl (by kernel_rfl) (X.opensF_cons (X.opens_int Tryz.underlying3) rfl (by kernel_rfl) (X.opensF_one (X.opens_slice Tryz.underlying39 (X.opens_int Tryz.underlying3) (by kernel_rfl)) rfl (by kernel_rfl))))))) (by kernel_rfl))) (by kernel_rfl)) rfl (by kernel_rfl)) (by kernel_rfl)) H enc W 0 _ _ fuel _ _ hf
  obtain ⟨A0_0, c0_0, e0_0, hle0_0, hC0_0⟩ := hK0
  replace e0_0 : cs0.toList = [(.slice A0_0 (v0_).length c0_0)] := e0_0
  have hcs0 : cs0 = #[(.slice A0_0 (v0_).length c0_0)] := by
    apply Array.toList_inj.mp
    rw [e0_0]
    first | done | rfl
  subst hcs0
  obtain ⟨m, hm⟩ := Tryz.laysM155.s1_3 W hsh
  clear hA0 hval0
  obtain ⟨k, hk⟩ := Pure.FnExactPrintOf (v0_) hw0
  refine (X.laws_FnExactPrintOf.calls k _ _ (v0_) true m W hC0_0 hle0_0 hm hk).mono fun e W' ⟨he, bel⟩ => ?_
  subst he
  exact ⟨_, rfl, _, _, _, [], _, [], hW', trodAll_mk1 (shut_bool Tryz.underlying4 _), (trodAll_cons_mk (Below.trod laidOut (by kernel_rfl) (of_decide_eq_true (by kernel_rfl)) k0 bel lt0) trodAll_mk0), rfl, bel.frame _, fun h => by cases h⟩
theorem over : Rows.fnExactPrintOfRow.holds Tryz.pinned (OpenSpec.ofChange Rows.fnExactPrintOfSpec) :=
  OpenClaim.holds_of_wide 3 Tryz.f3 rfl rfl rfl rfl rfl rfl rfl ⟨rfl, rfl, rfl, rfl, rfl⟩ rfl rfl rfl rfl rfl (by kernel_rfl) Tryz.func3 (by kernel_rfl)
    (of_decide_eq_true (by kernel_rfl)) (by unfold Func.isWrapper; first | (rw [if_pos (by decide +kernel)]; kernel_rfl) | (rw [if_neg (by decide +kernel)]; exact ⟨rfl, rfl⟩))
    (fun os started H enc _ => lifted os started H enc)
theorem proved : Rows.FnExactPrintOfCardSaid :=
  Claim7.holds_tied_plain_at .later [] [.data, .pinned] true (true, "36f5ae33f8e4f371b02833cb9ca36c117c8ca2029c3bfe59748064669938685a") false over (fun _ h => by cases h) (by kernel_rfl) (fun _ h => by cases h) fnExactPrintOf_row_tie rfl ⟨rfl, rfl⟩ (by kernel_rfl) rfl
    (fun f fn hf hfn => by
      obtain rfl : f = 3 := Option.some.inj ((show Tryz.prog.funcNamed "loop.example/g00118/laws.FnExactPrintOf" = some 3 by kernel_rfl).symm.trans hf) |>.symm
      obtain rfl : fn = Tryz.f3 := (Option.some.inj (Tryz.func3.symm.trans hfn)).symm
      exact ⟨by kernel_rfl, fun j t ht => by
        rw [Tryz.params3] at ht
        have hm : t ∈ [24] := by simpa using Array.mem_of_getElem? ht
        have hall : ([24].all fun u => !Tryz.prog.wantsStandIn u) = true := by kernel_rfl
        exact (show Tryz.prog.wantsStandIn t = false by simpa using List.all_eq_true.1 hall t hm)⟩)
    (by kernel_rfl)
end Go.Proofs.YtlnmmcipioagaaaGreatDoor.fnExactPrintOf
namespace Go.Proofs.YtlnmmcipioagaaaGreatDoor
/-- The tied card, under a short name, for the claim. -/
theorem fnExactPrintOf_holds : Rows.FnExactPrintOfCardSaid := fnExactPrintOf.proved
end Go.Proofs.YtlnmmcipioagaaaGreatDoor
