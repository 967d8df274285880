/- The program's IsBound gives, for every text, what the reference's gives. (A plain statement over numbers and lists; the row behind it carries it to the program.) Conditions: none beyond the row's own. -/
import Derived.Test.YtplgbnalflpdhaaKFnExactIsBoundy1
namespace Go.Proofs.Ytplgbnalflpdhaa.Pure
open Go.RowKit Go.Proofs.Ytplgbnalflpdhaa.X Go.Proofs.YtplgbnalflpdhaaW.PrintWords Go.Proofs.YtplgbnalflpdhaaW.PrintLast Go.Proofs.YtplgbnalflpdhaaW.PrintMore Go.Proofs.Ytplgbnalflpdhaa.Y
set_option linter.unusedVariables false
set_option linter.unusedSimpArgs false
theorem FnExactIsBound (s : ByteArray) (h : s.size ≤ 1048576) : ∃ k, spec_IsBound.f k s = some (oneOf s words_IsBound) := by
  refine Ev.rounds (g := fun k => spec_IsBound.f k s) ?_
  unfold spec_IsBound.f
  exact Ev.bind (l8In_one [(⟨#[97, 112, 112, 108, 101, 116]⟩ : ByteArray), (⟨#[104, 116, 109, 108]⟩ : ByteArray), (⟨#[109, 97, 114, 113, 117, 101, 101]⟩ : ByteArray), (⟨#[111, 98, 106, 101, 99, 116]⟩ : ByteArray), (⟨#[116, 97, 98, 108, 101]⟩ : ByteArray), (⟨#[116, 100]⟩ : ByteArray), (⟨#[116, 104]⟩ : ByteArray)] s words_IsBound (by decide) (by decide +kernel) (by decide +kernel)) (Ev.now _)

end Go.Proofs.Ytplgbnalflpdhaa.Pure
