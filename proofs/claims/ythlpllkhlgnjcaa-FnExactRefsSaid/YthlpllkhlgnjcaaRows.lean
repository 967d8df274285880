/-
  No cell of these rows narrows 'for every input' (looked for: loops, veiled, ifaces, maps, wideKeys, modest, calm, conditions, laid).
  DERIVED. THE GIVEN ROWS OF THIS SEAT. 12 by the template 'for every input the law returns true; each argument reads behind the call as it read before'; 0 by the template 'total and deterministic' (their statements: YthlpllkhlgnjcaaTotals.lean).
  GIVEN WITH THE SEED: the statements are not yours to turn. If you find one false, say at which input.
  Laid BY PROGRAM, IN A SANDBOX (cutbox-rows.mjs): the forced cells as the released guide's own fill.sh prints them over the translation a4659037367bdb71… (all of the seat's roots in one cut). By AI agents, Wed Nov 11 2026. No macro, syntax, notation, axiom, sorry.
-/
import Derived.Test.YthlpllkhlgnjcaaChecked
import GoSem.Claim
import GoSem.ClaimJoined
import GoSem.ClaimMapViews
import Derived.JoinedTies
import Derived.KernelRfl
namespace Go.Proofs.Ythlpllkhlgnjcaa
/- THE CELL 'sum', in the pinned program and in every row, IS THE sha256 OF THE DUMP (.gsa) THAT YthlpllkhlgnjcaaProg.lean LOADS. Nothing in Lean hashes anything: it is a label: what it is worth is what the hold of that sum in a sandbox is worth. -/
noncomputable def Try.pinned : Pinned := { name := "ythlpllkhlgnjcaa", sum := "a4659037367bdb71dd7926fdfb6716e77bf671fb8c8cc8410d44a488976c6ed7", checked := Try.checked }
namespace Rows
def none {H : Type} : Left H := { results := [], args := [] }

/-- 'laws.FnExactConstants': WHATEVER THE INPUT: true; the input reads as it did. -/
def fnExactConstantsSpec : ChangeSpec := { name := "fnExactConstants", fn := fun _ => fun
  | [] => { results := [.lit (.bool true)], args := [] }
  | _ => none }
def fnExactConstantsRow : OpenClaim := { program := "ythlpllkhlgnjcaa", sum := "a4659037367bdb71dd7926fdfb6716e77bf671fb8c8cc8410d44a488976c6ed7", func := "loop.example/g00118/laws.FnExactConstants", spec := "fnExactConstants", apart := false }
def FnExactConstantsSaid : Prop := fnExactConstantsRow.holds Try.pinned (OpenSpec.ofChange fnExactConstantsSpec)

/-- ITS FALSE NEIGHBOUR: 'it returns false'. Refute it at one input. -/
def fnExactConstantsWrong : ChangeSpec := { name := "fnExactConstants", fn := fun _ => fun
  | [] => { results := [.lit (.bool false)], args := [] }
  | _ => none }
def FnExactConstantsWrongFalsely : Prop := fnExactConstantsRow.holds Try.pinned (OpenSpec.ofChange fnExactConstantsWrong)

/-- 'laws.FnExactIsBlank': WHATEVER THE INPUT: true; the input reads as it did. -/
def fnExactIsBlankSpec : ChangeSpec := { name := "fnExactIsBlank", fn := fun _ => fun
  | [d] => { results := [.lit (.bool true)], args := [d] }
  | _ => none }
def fnExactIsBlankRow : OpenClaim := { program := "ythlpllkhlgnjcaa", sum := "a4659037367bdb71dd7926fdfb6716e77bf671fb8c8cc8410d44a488976c6ed7", func := "loop.example/g00118/laws.FnExactIsBlank", spec := "fnExactIsBlank", apart := false }
def FnExactIsBlankSaid : Prop := fnExactIsBlankRow.holds Try.pinned (OpenSpec.ofChange fnExactIsBlankSpec)

/-- ITS FALSE NEIGHBOUR: 'it returns false'. Refute it at one input. -/
def fnExactIsBlankWrong : ChangeSpec := { name := "fnExactIsBlank", fn := fun _ => fun
  | [d] => { results := [.lit (.bool false)], args := [d] }
  | _ => none }
def FnExactIsBlankWrongFalsely : Prop := fnExactIsBlankRow.holds Try.pinned (OpenSpec.ofChange fnExactIsBlankWrong)

/-- 'laws.FnExactIsAlpha': WHATEVER THE INPUT: true; the input reads as it did. -/
def fnExactIsAlphaSpec : ChangeSpec := { name := "fnExactIsAlpha", fn := fun _ => fun
  | [d] => { results := [.lit (.bool true)], args := [d] }
  | _ => none }
def fnExactIsAlphaRow : OpenClaim := { program := "ythlpllkhlgnjcaa", sum := "a4659037367bdb71dd7926fdfb6716e77bf671fb8c8cc8410d44a488976c6ed7", func := "loop.example/g00118/laws.FnExactIsAlpha", spec := "fnExactIsAlpha", apart := false }
def FnExactIsAlphaSaid : Prop := fnExactIsAlphaRow.holds Try.pinned (OpenSpec.ofChange fnExactIsAlphaSpec)

/-- ITS FALSE NEIGHBOUR: 'it returns false'. Refute it at one input. -/
def fnExactIsAlphaWrong : ChangeSpec := { name := "fnExactIsAlpha", fn := fun _ => fun
  | [d] => { results := [.lit (.bool false)], args := [d] }
  | _ => none }
def FnExactIsAlphaWrongFalsely : Prop := fnExactIsAlphaRow.holds Try.pinned (OpenSpec.ofChange fnExactIsAlphaWrong)

/-- 'laws.FnExactPointOk': WHATEVER THE INPUT: true; the input reads as it did. -/
def fnExactPointOkSpec : ChangeSpec := { name := "fnExactPointOk", fn := fun _ => fun
  | [d] => { results := [.lit (.bool true)], args := [d] }
  | _ => none }
def fnExactPointOkRow : OpenClaim := { program := "ythlpllkhlgnjcaa", sum := "a4659037367bdb71dd7926fdfb6716e77bf671fb8c8cc8410d44a488976c6ed7", func := "loop.example/g00118/laws.FnExactPointOk", spec := "fnExactPointOk", apart := false }
def FnExactPointOkSaid : Prop := fnExactPointOkRow.holds Try.pinned (OpenSpec.ofChange fnExactPointOkSpec)

/-- ITS FALSE NEIGHBOUR: 'it returns false'. Refute it at one input. -/
def fnExactPointOkWrong : ChangeSpec := { name := "fnExactPointOk", fn := fun _ => fun
  | [d] => { results := [.lit (.bool false)], args := [d] }
  | _ => none }
def FnExactPointOkWrongFalsely : Prop := fnExactPointOkRow.holds Try.pinned (OpenSpec.ofChange fnExactPointOkWrong)

/-- 'laws.FnExactLowerOf': WHATEVER THE INPUT: true; the input reads as it did. -/
def fnExactLowerOfSpec : ChangeSpec := { name := "fnExactLowerOf", fn := fun _ => fun
  | [d] => { results := [.lit (.bool true)], args := [d] }
  | _ => none }
def fnExactLowerOfRow : OpenClaim := { program := "ythlpllkhlgnjcaa", sum := "a4659037367bdb71dd7926fdfb6716e77bf671fb8c8cc8410d44a488976c6ed7", func := "loop.example/g00118/laws.FnExactLowerOf", spec := "fnExactLowerOf", apart := false }
def FnExactLowerOfSaid : Prop := fnExactLowerOfRow.holds Try.pinned (OpenSpec.ofChange fnExactLowerOfSpec)

/-- ITS FALSE NEIGHBOUR: 'it returns false'. Refute it at one input. -/
def fnExactLowerOfWrong : ChangeSpec := { name := "fnExactLowerOf", fn := fun _ => fun
  | [d] => { results := [.lit (.bool false)], args := [d] }
  | _ => none }
def FnExactLowerOfWrongFalsely : Prop := fnExactLowerOfRow.holds Try.pinned (OpenSpec.ofChange fnExactLowerOfWrong)

/-- 'laws.FnExactRefNumber': WHATEVER THE INPUT: true; the input reads as it did. -/
def fnExactRefNumberSpec : ChangeSpec := { name := "fnExactRefNumber", fn := fun _ => fun
  | [d] => { results := [.lit (.bool true)], args := [d] }
  | _ => none }
def fnExactRefNumberRow : OpenClaim := { program := "ythlpllkhlgnjcaa", sum := "a4659037367bdb71dd7926fdfb6716e77bf671fb8c8cc8410d44a488976c6ed7", func := "loop.example/g00118/laws.FnExactRefNumber", spec := "fnExactRefNumber", apart := false }
def FnExactRefNumberSaid : Prop := fnExactRefNumberRow.holds Try.pinned (OpenSpec.ofChange fnExactRefNumberSpec)

/-- ITS FALSE NEIGHBOUR: 'it returns false'. Refute it at one input. -/
def fnExactRefNumberWrong : ChangeSpec := { name := "fnExactRefNumber", fn := fun _ => fun
  | [d] => { results := [.lit (.bool false)], args := [d] }
  | _ => none }
def FnExactRefNumberWrongFalsely : Prop := fnExactRefNumberRow.holds Try.pinned (OpenSpec.ofChange fnExactRefNumberWrong)

/-- 'laws.FnExactLowerText': WHATEVER THE INPUT: true; the input reads as it did. -/
def fnExactLowerTextSpec : ChangeSpec := { name := "fnExactLowerText", fn := fun _ => fun
  | [d] => { results := [.lit (.bool true)], args := [d] }
  | _ => none }
def fnExactLowerTextRow : OpenClaim := { program := "ythlpllkhlgnjcaa", sum := "a4659037367bdb71dd7926fdfb6716e77bf671fb8c8cc8410d44a488976c6ed7", func := "loop.example/g00118/laws.FnExactLowerText", spec := "fnExactLowerText", apart := false }
def FnExactLowerTextSaid : Prop := fnExactLowerTextRow.holds Try.pinned (OpenSpec.ofChange fnExactLowerTextSpec)

/-- ITS FALSE NEIGHBOUR: 'it returns false'. Refute it at one input. -/
def fnExactLowerTextWrong : ChangeSpec := { name := "fnExactLowerText", fn := fun _ => fun
  | [d] => { results := [.lit (.bool false)], args := [d] }
  | _ => none }
def FnExactLowerTextWrongFalsely : Prop := fnExactLowerTextRow.holds Try.pinned (OpenSpec.ofChange fnExactLowerTextWrong)

/-- 'laws.FnExactDigitOf': WHATEVER THE INPUT: true; the input reads as it did. -/
def fnExactDigitOfSpec : ChangeSpec := { name := "fnExactDigitOf", fn := fun _ => fun
  | [d1, d2] => { results := [.lit (.bool true)], args := [d1, d2] }
  | _ => none }
def fnExactDigitOfRow : OpenClaim := { program := "ythlpllkhlgnjcaa", sum := "a4659037367bdb71dd7926fdfb6716e77bf671fb8c8cc8410d44a488976c6ed7", func := "loop.example/g00118/laws.FnExactDigitOf", spec := "fnExactDigitOf", apart := false }
def FnExactDigitOfSaid : Prop := fnExactDigitOfRow.holds Try.pinned (OpenSpec.ofChange fnExactDigitOfSpec)

/-- ITS FALSE NEIGHBOUR: 'it returns false'. Refute it at one input. -/
def fnExactDigitOfWrong : ChangeSpec := { name := "fnExactDigitOf", fn := fun _ => fun
  | [d1, d2] => { results := [.lit (.bool false)], args := [d1, d2] }
  | _ => none }
def FnExactDigitOfWrongFalsely : Prop := fnExactDigitOfRow.holds Try.pinned (OpenSpec.ofChange fnExactDigitOfWrong)

/-- 'laws.FnExactPutNum': WHATEVER THE INPUT: true; the input reads as it did. -/
def fnExactPutNumSpec : ChangeSpec := { name := "fnExactPutNum", fn := fun _ => fun
  | [d] => { results := [.lit (.bool true)], args := [d] }
  | _ => none }
def fnExactPutNumRow : OpenClaim := { program := "ythlpllkhlgnjcaa", sum := "a4659037367bdb71dd7926fdfb6716e77bf671fb8c8cc8410d44a488976c6ed7", func := "loop.example/g00118/laws.FnExactPutNum", spec := "fnExactPutNum", apart := false }
def FnExactPutNumSaid : Prop := fnExactPutNumRow.holds Try.pinned (OpenSpec.ofChange fnExactPutNumSpec)

/-- ITS FALSE NEIGHBOUR: 'it returns false'. Refute it at one input. -/
def fnExactPutNumWrong : ChangeSpec := { name := "fnExactPutNum", fn := fun _ => fun
  | [d] => { results := [.lit (.bool false)], args := [d] }
  | _ => none }
def FnExactPutNumWrongFalsely : Prop := fnExactPutNumRow.holds Try.pinned (OpenSpec.ofChange fnExactPutNumWrong)

/-- 'laws.FnExactPutText': WHATEVER THE INPUT: true; the input reads as it did. -/
def fnExactPutTextSpec : ChangeSpec := { name := "fnExactPutText", fn := fun _ => fun
  | [d] => { results := [.lit (.bool true)], args := [d] }
  | _ => none }
def fnExactPutTextRow : OpenClaim := { program := "ythlpllkhlgnjcaa", sum := "a4659037367bdb71dd7926fdfb6716e77bf671fb8c8cc8410d44a488976c6ed7", func := "loop.example/g00118/laws.FnExactPutText", spec := "fnExactPutText", apart := false }
def FnExactPutTextSaid : Prop := fnExactPutTextRow.holds Try.pinned (OpenSpec.ofChange fnExactPutTextSpec)

/-- ITS FALSE NEIGHBOUR: 'it returns false'. Refute it at one input. -/
def fnExactPutTextWrong : ChangeSpec := { name := "fnExactPutText", fn := fun _ => fun
  | [d] => { results := [.lit (.bool false)], args := [d] }
  | _ => none }
def FnExactPutTextWrongFalsely : Prop := fnExactPutTextRow.holds Try.pinned (OpenSpec.ofChange fnExactPutTextWrong)

/-- 'laws.FnExactGetNum': WHATEVER THE INPUT: true; the input reads as it did. -/
def fnExactGetNumSpec : ChangeSpec := { name := "fnExactGetNum", fn := fun _ => fun
  | [d1, d2] => { results := [.lit (.bool true)], args := [d1, d2] }
  | _ => none }
def fnExactGetNumRow : OpenClaim := { program := "ythlpllkhlgnjcaa", sum := "a4659037367bdb71dd7926fdfb6716e77bf671fb8c8cc8410d44a488976c6ed7", func := "loop.example/g00118/laws.FnExactGetNum", spec := "fnExactGetNum", apart := false }
def FnExactGetNumSaid : Prop := fnExactGetNumRow.holds Try.pinned (OpenSpec.ofChange fnExactGetNumSpec)

/-- ITS FALSE NEIGHBOUR: 'it returns false'. Refute it at one input. -/
def fnExactGetNumWrong : ChangeSpec := { name := "fnExactGetNum", fn := fun _ => fun
  | [d1, d2] => { results := [.lit (.bool false)], args := [d1, d2] }
  | _ => none }
def FnExactGetNumWrongFalsely : Prop := fnExactGetNumRow.holds Try.pinned (OpenSpec.ofChange fnExactGetNumWrong)

/-- 'laws.FnExactRefs': WHATEVER THE INPUT: true; the input reads as it did. -/
def fnExactRefsSpec : ChangeSpec := { name := "fnExactRefs", fn := fun _ => fun
  | [] => { results := [.lit (.bool true)], args := [] }
  | _ => none }
def fnExactRefsRow : OpenClaim := { program := "ythlpllkhlgnjcaa", sum := "a4659037367bdb71dd7926fdfb6716e77bf671fb8c8cc8410d44a488976c6ed7", func := "loop.example/g00118/laws.FnExactRefs", spec := "fnExactRefs", apart := false }
def FnExactRefsSaid : Prop := fnExactRefsRow.holds Try.pinned (OpenSpec.ofChange fnExactRefsSpec)

/-- ITS FALSE NEIGHBOUR: 'it returns false'. Refute it at one input. -/
def fnExactRefsWrong : ChangeSpec := { name := "fnExactRefs", fn := fun _ => fun
  | [] => { results := [.lit (.bool false)], args := [] }
  | _ => none }
def FnExactRefsWrongFalsely : Prop := fnExactRefsRow.holds Try.pinned (OpenSpec.ofChange fnExactRefsWrong)

/- THE SECOND FORM. 'bulk': how many values and letters a reading holds, each counted each time it is reached (what is shared counts as often as it is met; a slice's spare places count too). A statement '..UptoSaid' is the law's where the arguments, and the package variables that the reading takes, are together of bulk at most 1048576: NARROWER than '..Said'. Prove '..Said' where nothing that the law and all that it calls make is longer than what came in: it says more and counts as full. Else prove '..UptoSaid'. A law counts once. -/
mutual
def uptoBulk {H : Type} : DataW H → Nat
  | .lit (.string bytes) => bytes.length + 1
  | .lit _ => 1
  | .nil => 1
  | .ptr d => uptoBulk d + 1
  | .slice elems spare => uptoBulkAll elems + uptoBulkAll spare + 1
  | .agg parts => uptoBulkAll parts + 1
  | .iface _ d => uptoBulk d + 1
  | .map entries => uptoBulkEntries entries + 1
  | .held _ => 1
def uptoBulkAll {H : Type} : List (DataW H) → Nat
  | [] => 0
  | d :: r => uptoBulk d + uptoBulkAll r
def uptoBulkEntries {H : Type} : List (Lit × DataW H) → Nat
  | [] => 0
  | x :: r => uptoBulkEntry x + uptoBulkEntries r
def uptoBulkEntry {H : Type} : Lit × DataW H → Nat
  | (.string bytes, d) => bytes.length + uptoBulk d + 1
  | (_, d) => uptoBulk d + 1
 end
def uptoSmall : (H : Type) → List (DataW H) → Bool := fun _ ds => decide (uptoBulkAll ds ≤ 1048576)
def OpenSpec.upto (s : _root_.Go.ChangeSpec) : _root_.Go.OpenSpec := { _root_.Go.OpenSpec.ofChange s with cond := some uptoSmall }

/-- 'laws.FnExactConstants', WHERE WHAT IT READS IS OF BULK AT MOST 1048576: true; the input reads as it did. -/
def fnExactConstantsUptoRow : OpenClaim := { program := "ythlpllkhlgnjcaa", sum := "a4659037367bdb71dd7926fdfb6716e77bf671fb8c8cc8410d44a488976c6ed7", func := "loop.example/g00118/laws.FnExactConstants", spec := "fnExactConstants", apart := false, narrowed := true }
def FnExactConstantsUptoSaid : Prop := fnExactConstantsUptoRow.holds Try.pinned (OpenSpec.upto fnExactConstantsSpec)

/-- 'laws.FnExactIsBlank', WHERE WHAT IT READS IS OF BULK AT MOST 1048576: true; the input reads as it did. -/
def fnExactIsBlankUptoRow : OpenClaim := { program := "ythlpllkhlgnjcaa", sum := "a4659037367bdb71dd7926fdfb6716e77bf671fb8c8cc8410d44a488976c6ed7", func := "loop.example/g00118/laws.FnExactIsBlank", spec := "fnExactIsBlank", apart := false, narrowed := true }
def FnExactIsBlankUptoSaid : Prop := fnExactIsBlankUptoRow.holds Try.pinned (OpenSpec.upto fnExactIsBlankSpec)

/-- 'laws.FnExactIsAlpha', WHERE WHAT IT READS IS OF BULK AT MOST 1048576: true; the input reads as it did. -/
def fnExactIsAlphaUptoRow : OpenClaim := { program := "ythlpllkhlgnjcaa", sum := "a4659037367bdb71dd7926fdfb6716e77bf671fb8c8cc8410d44a488976c6ed7", func := "loop.example/g00118/laws.FnExactIsAlpha", spec := "fnExactIsAlpha", apart := false, narrowed := true }
def FnExactIsAlphaUptoSaid : Prop := fnExactIsAlphaUptoRow.holds Try.pinned (OpenSpec.upto fnExactIsAlphaSpec)

/-- 'laws.FnExactPointOk', WHERE WHAT IT READS IS OF BULK AT MOST 1048576: true; the input reads as it did. -/
def fnExactPointOkUptoRow : OpenClaim := { program := "ythlpllkhlgnjcaa", sum := "a4659037367bdb71dd7926fdfb6716e77bf671fb8c8cc8410d44a488976c6ed7", func := "loop.example/g00118/laws.FnExactPointOk", spec := "fnExactPointOk", apart := false, narrowed := true }
def FnExactPointOkUptoSaid : Prop := fnExactPointOkUptoRow.holds Try.pinned (OpenSpec.upto fnExactPointOkSpec)

/-- 'laws.FnExactLowerOf', WHERE WHAT IT READS IS OF BULK AT MOST 1048576: true; the input reads as it did. -/
def fnExactLowerOfUptoRow : OpenClaim := { program := "ythlpllkhlgnjcaa", sum := "a4659037367bdb71dd7926fdfb6716e77bf671fb8c8cc8410d44a488976c6ed7", func := "loop.example/g00118/laws.FnExactLowerOf", spec := "fnExactLowerOf", apart := false, narrowed := true }
def FnExactLowerOfUptoSaid : Prop := fnExactLowerOfUptoRow.holds Try.pinned (OpenSpec.upto fnExactLowerOfSpec)

/-- 'laws.FnExactRefNumber', WHERE WHAT IT READS IS OF BULK AT MOST 1048576: true; the input reads as it did. -/
def fnExactRefNumberUptoRow : OpenClaim := { program := "ythlpllkhlgnjcaa", sum := "a4659037367bdb71dd7926fdfb6716e77bf671fb8c8cc8410d44a488976c6ed7", func := "loop.example/g00118/laws.FnExactRefNumber", spec := "fnExactRefNumber", apart := false, narrowed := true }
def FnExactRefNumberUptoSaid : Prop := fnExactRefNumberUptoRow.holds Try.pinned (OpenSpec.upto fnExactRefNumberSpec)

/-- 'laws.FnExactLowerText', WHERE WHAT IT READS IS OF BULK AT MOST 1048576: true; the input reads as it did. -/
def fnExactLowerTextUptoRow : OpenClaim := { program := "ythlpllkhlgnjcaa", sum := "a4659037367bdb71dd7926fdfb6716e77bf671fb8c8cc8410d44a488976c6ed7", func := "loop.example/g00118/laws.FnExactLowerText", spec := "fnExactLowerText", apart := false, narrowed := true }
def FnExactLowerTextUptoSaid : Prop := fnExactLowerTextUptoRow.holds Try.pinned (OpenSpec.upto fnExactLowerTextSpec)

/-- 'laws.FnExactDigitOf', WHERE WHAT IT READS IS OF BULK AT MOST 1048576: true; the input reads as it did. -/
def fnExactDigitOfUptoRow : OpenClaim := { program := "ythlpllkhlgnjcaa", sum := "a4659037367bdb71dd7926fdfb6716e77bf671fb8c8cc8410d44a488976c6ed7", func := "loop.example/g00118/laws.FnExactDigitOf", spec := "fnExactDigitOf", apart := false, narrowed := true }
def FnExactDigitOfUptoSaid : Prop := fnExactDigitOfUptoRow.holds Try.pinned (OpenSpec.upto fnExactDigitOfSpec)

/-- 'laws.FnExactPutNum', WHERE WHAT IT READS IS OF BULK AT MOST 1048576: true; the input reads as it did. -/
def fnExactPutNumUptoRow : OpenClaim := { program := "ythlpllkhlgnjcaa", sum := "a4659037367bdb71dd7926fdfb6716e77bf671fb8c8cc8410d44a488976c6ed7", func := "loop.example/g00118/laws.FnExactPutNum", spec := "fnExactPutNum", apart := false, narrowed := true }
def FnExactPutNumUptoSaid : Prop := fnExactPutNumUptoRow.holds Try.pinned (OpenSpec.upto fnExactPutNumSpec)

/-- 'laws.FnExactPutText', WHERE WHAT IT READS IS OF BULK AT MOST 1048576: true; the input reads as it did. -/
def fnExactPutTextUptoRow : OpenClaim := { program := "ythlpllkhlgnjcaa", sum := "a4659037367bdb71dd7926fdfb6716e77bf671fb8c8cc8410d44a488976c6ed7", func := "loop.example/g00118/laws.FnExactPutText", spec := "fnExactPutText", apart := false, narrowed := true }
def FnExactPutTextUptoSaid : Prop := fnExactPutTextUptoRow.holds Try.pinned (OpenSpec.upto fnExactPutTextSpec)

/-- 'laws.FnExactGetNum', WHERE WHAT IT READS IS OF BULK AT MOST 1048576: true; the input reads as it did. -/
def fnExactGetNumUptoRow : OpenClaim := { program := "ythlpllkhlgnjcaa", sum := "a4659037367bdb71dd7926fdfb6716e77bf671fb8c8cc8410d44a488976c6ed7", func := "loop.example/g00118/laws.FnExactGetNum", spec := "fnExactGetNum", apart := false, narrowed := true }
def FnExactGetNumUptoSaid : Prop := fnExactGetNumUptoRow.holds Try.pinned (OpenSpec.upto fnExactGetNumSpec)

/-- 'laws.FnExactRefs', WHERE WHAT IT READS IS OF BULK AT MOST 1048576: true; the input reads as it did. -/
def fnExactRefsUptoRow : OpenClaim := { program := "ythlpllkhlgnjcaa", sum := "a4659037367bdb71dd7926fdfb6716e77bf671fb8c8cc8410d44a488976c6ed7", func := "loop.example/g00118/laws.FnExactRefs", spec := "fnExactRefs", apart := false, narrowed := true }
def FnExactRefsUptoSaid : Prop := fnExactRefsUptoRow.holds Try.pinned (OpenSpec.upto fnExactRefsSpec)

end Rows
end Go.Proofs.Ythlpllkhlgnjcaa
