/- The program's IsBlock gives, for every text, what the reference's gives. (A plain statement over numbers and lists; the row behind it carries it to the program.) Conditions: none beyond the row's own. -/
import Derived.Test.YtplgbnalflpdhaaKFnExactIsBlocky1
namespace Go.Proofs.Ytplgbnalflpdhaa.Pure
open Go.RowKit Go.Proofs.Ytplgbnalflpdhaa.X Go.Proofs.YtplgbnalflpdhaaW.PrintWords Go.Proofs.YtplgbnalflpdhaaW.PrintLast Go.Proofs.YtplgbnalflpdhaaW.PrintMore Go.Proofs.Ytplgbnalflpdhaa.Y
set_option linter.unusedVariables false
set_option linter.unusedSimpArgs false
theorem FnExactIsBlock (s : ByteArray) (h : s.size ≤ 1048576) : ∃ k, spec_IsBlock.f k s = some (oneOf s words_IsBlock) := by
  refine Ev.rounds (g := fun k => spec_IsBlock.f k s) ?_
  unfold spec_IsBlock.f
  exact Ev.bind (l8In_one [(⟨#[97, 100, 100, 114, 101, 115, 115]⟩ : ByteArray), (⟨#[97, 114, 116, 105, 99, 108, 101]⟩ : ByteArray), (⟨#[97, 115, 105, 100, 101]⟩ : ByteArray), (⟨#[98, 108, 111, 99, 107, 113, 117, 111, 116, 101]⟩ : ByteArray), (⟨#[99, 101, 110, 116, 101, 114]⟩ : ByteArray), (⟨#[100, 101, 116, 97, 105, 108, 115]⟩ : ByteArray), (⟨#[100, 105, 97, 108, 111, 103]⟩ : ByteArray), (⟨#[100, 105, 114]⟩ : ByteArray), (⟨#[100, 105, 118]⟩ : ByteArray), (⟨#[100, 108]⟩ : ByteArray), (⟨#[102, 105, 101, 108, 100, 115, 101, 116]⟩ : ByteArray), (⟨#[102, 105, 103, 99, 97, 112, 116, 105, 111, 110]⟩ : ByteArray), (⟨#[102, 105, 103, 117, 114, 101]⟩ : ByteArray), (⟨#[102, 111, 111, 116, 101, 114]⟩ : ByteArray), (⟨#[104, 101, 97, 100, 101, 114]⟩ : ByteArray), (⟨#[104, 103, 114, 111, 117, 112]⟩ : ByteArray), (⟨#[109, 97, 105, 110]⟩ : ByteArray), (⟨#[109, 101, 110, 117]⟩ : ByteArray), (⟨#[110, 97, 118]⟩ : ByteArray), (⟨#[111, 108]⟩ : ByteArray), (⟨#[112]⟩ : ByteArray), (⟨#[115, 101, 97, 114, 99, 104]⟩ : ByteArray), (⟨#[115, 101, 99, 116, 105, 111, 110]⟩ : ByteArray), (⟨#[115, 117, 109, 109, 97, 114, 121]⟩ : ByteArray), (⟨#[117, 108]⟩ : ByteArray)] s words_IsBlock (by decide) (by decide +kernel) (by decide +kernel)) (Ev.now _)

end Go.Proofs.Ytplgbnalflpdhaa.Pure
