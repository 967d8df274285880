/- Facts of the program of this seat that every row asks for, proved once. Conditions: none. -/
import Derived.Test.YtgneacekgbjkkaaRows
import Derived.WalkKit
import Derived.ProofKit
import Derived.OpenShut
namespace Go.Proofs.Ytgneacekgbjkkaa.Facts
set_option linter.unusedVariables false
set_option maxRecDepth 100000
def ini : List Char := ([104,97,114,110,101,115,115,32,50,49,101,57,56,98,50,55,48,52,101,54,102,55,56,98,55,98,48,51,55,102,48,49,57,50,50,54,57,101,51,102,102,51,100,48,52,56,52,101,51,51,97,50,54,98,51,100,100,57,50,48,102,57,48,97,52,48,48,53,51,99,50,57,32,99,117,116,32,97,116,32,108,111,111,112,46,101,120,97,109,112,108,101,47,103,48,48,49,49,56,47,108,97,119,115,46,70,110,69,120,97,99,116,84,114,101,101,79,107,32,108,111,111,112,46,101,120,97,109,112,108,101,47,103,48,48,49,49,56,47,108,97,119,115,46,70,110,69,120,97,99,116,84,114,101,101,83,97,109,101,32,108,111,111,112,46,101,120,97,109,112,108,101,47,103,48,48,49,49,56,47,108,97,119,115,46,70,110,69,120,97,99,116,84,114,101,101,84,105,100,121,32,108,111,111,112,46,101,120,97,109,112,108,101,47,103,48,48,49,49,56,47,108,97,119,115,46,70,110,69,120,97,99,116,84,114,101,101,65,100,100,32,108,111,111,112,46,101,120,97,109,112,108,101,47,103,48,48,49,49,56,47,108,97,119,115,46,70,110,69,120,97,99,116,84,101,120,116,79,102,32,108,111,111,112,46,101,120,97,109,112,108,101,47,103,48,48,49,49,56,47,108,97,119,115,46,70,110,84,101,120,116,115,32,108,111,111,112,46,101,120,97,109,112,108,101,47,103,48,48,49,49,56,47,108,97,119,115,46,70,110,69,120,97,99,116,84,114,101,101,80,97,99,107] : List Nat).map Char.ofNat
theorem ini_is : Try.prog.initOrder = String.ofList ini := by kernel_rfl
theorem signs : Try.prog.initOrder.toList = ini := by rw [ini_is, String.toList_ofList]
def tail : List Char := ini.drop 77
theorem wordsSigns_cut (a r : List Char) (h : ∀ c ∈ a, c ≠ Char.ofNat 32) : wordsSigns (a ++ Char.ofNat 32 :: r) = a :: wordsSigns r := by
  induction a with
  | nil => rfl
  | cons c a ih =>
    have hc := h c (by simp)
    have := ih (fun c hc => h c (List.mem_cons_of_mem _ hc))
    simp only [List.cons_append]
    rw [wordsSigns.eq_3 c _ (fun e => hc e), this]
def cutW : List Char := [Char.ofNat 99, Char.ofNat 117, Char.ofNat 116]
theorem ini_parts : ini = (ini.take 7) ++ Char.ofNat 32 :: ((ini.drop 8).take 64 ++ Char.ofNat 32 :: (cutW ++ Char.ofNat 32 :: tail)) := by kernel_rfl
theorem words_is : behindMainWord (wordsSigns ini) = cutW :: wordsSigns tail := by
  have e : wordsSigns ini = ini.take 7 :: (ini.drop 8).take 64 :: cutW :: wordsSigns tail := by
    conv => lhs; rw [ini_parts]
    rw [wordsSigns_cut _ _ (by decide +kernel), wordsSigns_cut _ _ (by decide +kernel), wordsSigns_cut _ _ (by decide +kernel)]
  rw [e]
  have h1 : (ini.take 7 == "harness".toList) = true := by decide +kernel
  have h2 : isSumSigns ((ini.drop 8).take 64) = true := by decide +kernel
  generalize ini.take 7 = a at *
  generalize (ini.drop 8).take 64 = b at *
  generalize wordsSigns tail = r
  unfold behindMainWord
  simp only [h1, h2, Bool.true_or, Bool.true_and, if_true]
theorem is_gc : (cutW == "gc".toList) = false := by decide +kernel
theorem is_spec : (cutW == "spec".toList) = false := by decide +kernel
theorem is_cut : (cutW == "cut".toList) = true := by decide +kernel
theorem is_carried : (cutW == "carried".toList) = false := by decide +kernel
theorem later : Try.prog.laysLater = false := by kernel_rfl
theorem reflects : Try.prog.bearsReflect = false := by kernel_rfl
theorem strip (l : List (List Char)) : stripLifts liftWords (cutW :: l) = ([], cutW :: l) := by
  have h : ∀ o ∈ liftWords, (cutW == o.toList) = false := by decide +kernel
  generalize liftWords = ws at h
  induction ws with
  | nil => rfl
  | cons o os ih =>
    unfold stripLifts
    rw [h o (by simp)]
    exact ih (fun o ho => h o (List.mem_cons_of_mem _ ho))
theorem head_cut (l : List (List Char)) : ((cutW :: l).head? == some "cut".toList) = true := by
  show (some cutW == some "cut".toList) = true
  have := is_cut; simpa using this
theorem fits : Try.prog.doorFits [] = true := by kernel_rfl
theorem enter_of (P : Program) (r : List (List Char)) (h : behindMainWord (wordsSigns P.initOrder.toList) = cutW :: r) (hl : P.laysLater = false) (hr : P.bearsReflect = false) (hd : P.doorFits [] = true) : P.mayEnter = true := by
  unfold Program.mayEnter; rw [h]; simp only [strip, hl, hr, is_gc, is_spec, is_carried, head_cut, hd, Bool.false_or, Bool.false_and, Bool.not_false, Bool.or_true, Bool.and_true, Bool.true_and]
  rfl
theorem make_of (P : Program) (r : List (List Char)) (h : behindMainWord (wordsSigns P.initOrder.toList) = cutW :: r) : P.make = some .cut := by
  unfold Program.make; rw [h]; simp only [is_gc, is_spec, is_cut, Bool.or_false, Bool.true_or, if_true, Bool.false_eq_true, if_false]
theorem words : behindMainWord (wordsSigns Try.prog.initOrder.toList) = cutW :: wordsSigns tail := by rw [signs, words_is]
theorem enter : Try.prog.mayEnter = true := enter_of _ _ words later reflects fits
theorem headLifts : Try.prog.headLifts = [] := by
  unfold Program.headLifts; rw [signs, words_is]; simp only [strip, ite_self]
theorem final : Try.prog.liftsFinal = false := by
  unfold Program.liftsFinal; rw [signs, headLifts]; kernel_rfl
theorem make : Try.prog.make = some .cut := make_of _ _ words
theorem laid : laidOutB Try.prog = true := by kernel_rfl
theorem rowed : mapsRowed Try.prog = true := by kernel_rfl
theorem stops : Try.prog.stops = [] := by kernel_rfl
theorem stopKnobs : Try.prog.stopKnobs = [] := by kernel_rfl
theorem keys : Try.prog.plainKeys = true := by kernel_rfl
theorem heard : Try.prog.stopsHeard = true := by kernel_rfl
theorem and2 {a b : Bool} (h : a = true) (h' : b = true) : (a && b) = true := by rw [h, h']; rfl
/-- What a row asks for of the whole program is proved above; the rest is the row's own. -/
theorem joined {f : FuncId} {fn : Func} {s : ChangeSpec} {c : OpenClaim} (h0 : c.wf (OpenSpec.ofChange s) = true) (h3 : fn.params.all (Try.prog.readableRec ·) = true) (h4 : namedTie Try.prog c.named s.vars = true)
    (h5 : c.stops = []) (h7 : c.knobs = []) (h9 : (c.inPlace == Try.prog.inPlace f) = true) (h10 : (c.unfollowed == Try.prog.unfollowed f) = true) (h11 : (c.recurses == Try.prog.recurses f) = true) (h12 : (c.named == Try.prog.varsNamed f) = true)
    (h13 : (c.maps == (fn.params.toList ++ s.plain.varTypes Try.prog).any (Try.prog.mapsRec ·)) = true) (h14 : (c.ifaces == (fn.params.toList ++ s.plain.varTypes Try.prog).any (Try.prog.ifacesRec ·)) = true) (h15 : (c.mapsOut == Try.prog.mapsAmong fn.resultTypes.toList) = true)
    (h16 : (c.loops == (fn.params.toList ++ s.plain.varTypes Try.prog).any (Try.prog.loopsFrom ·)) = true) (h17 : (c.wideKeys == (fn.params.toList ++ s.plain.varTypes Try.prog ++ fn.resultTypes.toList).any (Try.prog.wideKeysFrom ·)) = true)
    (h18 : s.vars.all (Try.prog.varReadable ·) = true) (h19 : fn.resultTypes.all (fun t => Try.prog.readableRec t && decide (t < Try.prog.types.size)) = true) (h20 : (c.ifacesOut == fn.resultTypes.toList.any (Try.prog.ifacesRec ·)) = true) (h21 : (c.loopsOut == fn.resultTypes.toList.any (Try.prog.loopsFrom ·)) = true)
    (h22 : c.plainKeys = true) (h23 : c.shortTexts.isNone = true) (h26 : c.lifted = false) (h27 : c.make = .cut) (h28 : (c.kinds == (if c.domain.isEmpty then [] else fn.params.toList.map fun t => match Try.prog.underlying t with | some (.int k) => some k | _ => none)) = true) (h29 : (c.pinned == c.pinnedBy) = true)
    (h30 : (c.veiled == (fn.params.toList ++ s.plain.varTypes Try.prog ++ fn.resultTypes.toList).any (Try.prog.veiledRec ·)) = true) (h31 : c.veiledFits Try.prog fn.params.toList (fn.params.toList ++ s.plain.varTypes Try.prog ++ fn.resultTypes.toList) = true) : joinedFacts Try.prog f fn s c = true := by
  have e6 : (Try.prog.stops == []) = true := by rw [stops]; rfl
  have e8 : (Try.prog.stopKnobs == []) = true := by rw [stopKnobs]; rfl
  have e5 : (c.stops == []) = true := by rw [h5]; rfl
  have e7 : (c.knobs == []) = true := by rw [h7]; rfl
  have e22 : (c.plainKeys == Try.prog.plainKeys) = true := by rw [h22, keys]; rfl
  have e26 : (c.lifted == Try.prog.liftsFinal) = true := by rw [h26, final]; rfl
  have e27 : (Try.prog.make == some c.make) = true := by rw [h27, make]; rfl
  exact and2 (and2 (and2 (and2 (and2 (and2 (and2 (and2 (and2 (and2 (and2 (and2 (and2 (and2 (and2 (and2 (and2 (and2 (and2 (and2 (and2 (and2 (and2 (and2 (and2 (and2 (and2 (and2 (and2 (and2 (and2 h0 laid) (rowed)) (h3)) (h4)) (e5)) (e6)) (e7)) (e8)) (h9)) (h10)) (h11)) (h12)) (h13)) (h14)) (h15)) (h16)) (h17)) (h18)) (h19)) (h20)) (h21)) (e22)) (h23)) (heard)) (enter)) (e26)) (e27)) (h28)) (h29)) (h30)) (h31)
end Go.Proofs.Ytgneacekgbjkkaa.Facts
