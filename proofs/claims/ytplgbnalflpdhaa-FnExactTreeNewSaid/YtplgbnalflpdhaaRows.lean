/-
  No cell of these rows narrows 'for every input' (looked for: loops, veiled, ifaces, maps, wideKeys, modest, calm, conditions, laid).
  DERIVED. THE GIVEN ROWS OF THIS SEAT. 29 by the template 'for every input the law returns true; each argument reads behind the call as it read before'; 0 by the template 'total and deterministic' (their statements: YtplgbnalflpdhaaTotals.lean).
  GIVEN WITH THE SEED: the statements are not yours to turn. If you find one false, say at which input.
  Laid BY PROGRAM, IN A SANDBOX (cutbox-rows.mjs): the forced cells as the released guide's own fill.sh prints them over the translation 7fa79e27d4824516… (all of the seat's roots in one cut). By AI agents, Wed Nov 11 2026. No macro, syntax, notation, axiom, sorry.
-/
import Derived.Test.YtplgbnalflpdhaaChecked
import GoSem.Claim
import GoSem.ClaimJoined
import GoSem.ClaimMapViews
import Derived.JoinedTies
import Derived.KernelRfl
namespace Go.Proofs.Ytplgbnalflpdhaa
/- THE CELL 'sum', in the pinned program and in every row, IS THE sha256 OF THE DUMP (.gsa) THAT YtplgbnalflpdhaaProg.lean LOADS. Nothing in Lean hashes anything: it is a label: what it is worth is what the hold of that sum in a sandbox is worth. -/
noncomputable def Try.pinned : Pinned := { name := "ytplgbnalflpdhaa", sum := "7fa79e27d482451677f8827030b6117111d5add3ea0bb92861fb430cbbb3e28c", checked := Try.checked }
namespace Rows
def none {H : Type} : Left H := { results := [], args := [] }

/-- 'laws.FnExactRefNumber': WHATEVER THE INPUT: true; the input reads as it did. -/
def fnExactRefNumberSpec : ChangeSpec := { name := "fnExactRefNumber", fn := fun _ => fun
  | [d] => { results := [.lit (.bool true)], args := [d] }
  | _ => none }
def fnExactRefNumberRow : OpenClaim := { program := "ytplgbnalflpdhaa", sum := "7fa79e27d482451677f8827030b6117111d5add3ea0bb92861fb430cbbb3e28c", func := "loop.example/g00118/laws.FnExactRefNumber", spec := "fnExactRefNumber", apart := false }
def FnExactRefNumberSaid : Prop := fnExactRefNumberRow.holds Try.pinned (OpenSpec.ofChange fnExactRefNumberSpec)

/-- ITS FALSE NEIGHBOUR: 'it returns false'. Refute it at one input. -/
def fnExactRefNumberWrong : ChangeSpec := { name := "fnExactRefNumber", fn := fun _ => fun
  | [d] => { results := [.lit (.bool false)], args := [d] }
  | _ => none }
def FnExactRefNumberWrongFalsely : Prop := fnExactRefNumberRow.holds Try.pinned (OpenSpec.ofChange fnExactRefNumberWrong)

/-- 'laws.FnExactLowerText': WHATEVER THE INPUT: true; the input reads as it did. -/
def fnExactLowerTextSpec : ChangeSpec := { name := "fnExactLowerText", fn := fun _ => fun
  | [d] => { results := [.lit (.bool true)], args := [d] }
  | _ => none }
def fnExactLowerTextRow : OpenClaim := { program := "ytplgbnalflpdhaa", sum := "7fa79e27d482451677f8827030b6117111d5add3ea0bb92861fb430cbbb3e28c", func := "loop.example/g00118/laws.FnExactLowerText", spec := "fnExactLowerText", apart := false }
def FnExactLowerTextSaid : Prop := fnExactLowerTextRow.holds Try.pinned (OpenSpec.ofChange fnExactLowerTextSpec)

/-- ITS FALSE NEIGHBOUR: 'it returns false'. Refute it at one input. -/
def fnExactLowerTextWrong : ChangeSpec := { name := "fnExactLowerText", fn := fun _ => fun
  | [d] => { results := [.lit (.bool false)], args := [d] }
  | _ => none }
def FnExactLowerTextWrongFalsely : Prop := fnExactLowerTextRow.holds Try.pinned (OpenSpec.ofChange fnExactLowerTextWrong)

/-- 'laws.FnExactPutText': WHATEVER THE INPUT: true; the input reads as it did. -/
def fnExactPutTextSpec : ChangeSpec := { name := "fnExactPutText", fn := fun _ => fun
  | [d] => { results := [.lit (.bool true)], args := [d] }
  | _ => none }
def fnExactPutTextRow : OpenClaim := { program := "ytplgbnalflpdhaa", sum := "7fa79e27d482451677f8827030b6117111d5add3ea0bb92861fb430cbbb3e28c", func := "loop.example/g00118/laws.FnExactPutText", spec := "fnExactPutText", apart := false }
def FnExactPutTextSaid : Prop := fnExactPutTextRow.holds Try.pinned (OpenSpec.ofChange fnExactPutTextSpec)

/-- ITS FALSE NEIGHBOUR: 'it returns false'. Refute it at one input. -/
def fnExactPutTextWrong : ChangeSpec := { name := "fnExactPutText", fn := fun _ => fun
  | [d] => { results := [.lit (.bool false)], args := [d] }
  | _ => none }
def FnExactPutTextWrongFalsely : Prop := fnExactPutTextRow.holds Try.pinned (OpenSpec.ofChange fnExactPutTextWrong)

/-- 'laws.FnExactGetNum': WHATEVER THE INPUT: true; the input reads as it did. -/
def fnExactGetNumSpec : ChangeSpec := { name := "fnExactGetNum", fn := fun _ => fun
  | [d1, d2] => { results := [.lit (.bool true)], args := [d1, d2] }
  | _ => none }
def fnExactGetNumRow : OpenClaim := { program := "ytplgbnalflpdhaa", sum := "7fa79e27d482451677f8827030b6117111d5add3ea0bb92861fb430cbbb3e28c", func := "loop.example/g00118/laws.FnExactGetNum", spec := "fnExactGetNum", apart := false }
def FnExactGetNumSaid : Prop := fnExactGetNumRow.holds Try.pinned (OpenSpec.ofChange fnExactGetNumSpec)

/-- ITS FALSE NEIGHBOUR: 'it returns false'. Refute it at one input. -/
def fnExactGetNumWrong : ChangeSpec := { name := "fnExactGetNum", fn := fun _ => fun
  | [d1, d2] => { results := [.lit (.bool false)], args := [d1, d2] }
  | _ => none }
def FnExactGetNumWrongFalsely : Prop := fnExactGetNumRow.holds Try.pinned (OpenSpec.ofChange fnExactGetNumWrong)

/-- 'laws.FnRefNumber': WHATEVER THE INPUT: true; the input reads as it did. -/
def fnRefNumberSpec : ChangeSpec := { name := "fnRefNumber", fn := fun _ => fun
  | [d] => { results := [.lit (.bool true)], args := [d] }
  | _ => none }
def fnRefNumberRow : OpenClaim := { program := "ytplgbnalflpdhaa", sum := "7fa79e27d482451677f8827030b6117111d5add3ea0bb92861fb430cbbb3e28c", func := "loop.example/g00118/laws.FnRefNumber", spec := "fnRefNumber", apart := false }
def FnRefNumberSaid : Prop := fnRefNumberRow.holds Try.pinned (OpenSpec.ofChange fnRefNumberSpec)

/-- ITS FALSE NEIGHBOUR: 'it returns false'. Refute it at one input. -/
def fnRefNumberWrong : ChangeSpec := { name := "fnRefNumber", fn := fun _ => fun
  | [d] => { results := [.lit (.bool false)], args := [d] }
  | _ => none }
def FnRefNumberWrongFalsely : Prop := fnRefNumberRow.holds Try.pinned (OpenSpec.ofChange fnRefNumberWrong)

/-- 'laws.FnExactLinesOf': WHATEVER THE INPUT: true; the input reads as it did. -/
def fnExactLinesOfSpec : ChangeSpec := { name := "fnExactLinesOf", fn := fun _ => fun
  | [d] => { results := [.lit (.bool true)], args := [d] }
  | _ => none }
def fnExactLinesOfRow : OpenClaim := { program := "ytplgbnalflpdhaa", sum := "7fa79e27d482451677f8827030b6117111d5add3ea0bb92861fb430cbbb3e28c", func := "loop.example/g00118/laws.FnExactLinesOf", spec := "fnExactLinesOf", apart := false }
def FnExactLinesOfSaid : Prop := fnExactLinesOfRow.holds Try.pinned (OpenSpec.ofChange fnExactLinesOfSpec)

/-- ITS FALSE NEIGHBOUR: 'it returns false'. Refute it at one input. -/
def fnExactLinesOfWrong : ChangeSpec := { name := "fnExactLinesOf", fn := fun _ => fun
  | [d] => { results := [.lit (.bool false)], args := [d] }
  | _ => none }
def FnExactLinesOfWrongFalsely : Prop := fnExactLinesOfRow.holds Try.pinned (OpenSpec.ofChange fnExactLinesOfWrong)

/-- 'laws.FnExactAttrOf': WHATEVER THE INPUT: true; the input reads as it did. -/
def fnExactAttrOfSpec : ChangeSpec := { name := "fnExactAttrOf", fn := fun _ => fun
  | [d1, d2] => { results := [.lit (.bool true)], args := [d1, d2] }
  | _ => none }
def fnExactAttrOfRow : OpenClaim := { program := "ytplgbnalflpdhaa", sum := "7fa79e27d482451677f8827030b6117111d5add3ea0bb92861fb430cbbb3e28c", func := "loop.example/g00118/laws.FnExactAttrOf", spec := "fnExactAttrOf", unfollowed := true, recurses := true, apart := false }
def FnExactAttrOfSaid : Prop := fnExactAttrOfRow.holds Try.pinned (OpenSpec.ofChange fnExactAttrOfSpec)

/-- ITS FALSE NEIGHBOUR: 'it returns false'. Refute it at one input. -/
def fnExactAttrOfWrong : ChangeSpec := { name := "fnExactAttrOf", fn := fun _ => fun
  | [d1, d2] => { results := [.lit (.bool false)], args := [d1, d2] }
  | _ => none }
def FnExactAttrOfWrongFalsely : Prop := fnExactAttrOfRow.holds Try.pinned (OpenSpec.ofChange fnExactAttrOfWrong)

/-- 'laws.FnLines': WHATEVER THE INPUT: true; the input reads as it did. -/
def fnLinesSpec : ChangeSpec := { name := "fnLines", fn := fun _ => fun
  | [d] => { results := [.lit (.bool true)], args := [d] }
  | _ => none }
def fnLinesRow : OpenClaim := { program := "ytplgbnalflpdhaa", sum := "7fa79e27d482451677f8827030b6117111d5add3ea0bb92861fb430cbbb3e28c", func := "loop.example/g00118/laws.FnLines", spec := "fnLines", apart := false }
def FnLinesSaid : Prop := fnLinesRow.holds Try.pinned (OpenSpec.ofChange fnLinesSpec)

/-- ITS FALSE NEIGHBOUR: 'it returns false'. Refute it at one input. -/
def fnLinesWrong : ChangeSpec := { name := "fnLines", fn := fun _ => fun
  | [d] => { results := [.lit (.bool false)], args := [d] }
  | _ => none }
def FnLinesWrongFalsely : Prop := fnLinesRow.holds Try.pinned (OpenSpec.ofChange fnLinesWrong)

/-- 'laws.FnNums': WHATEVER THE INPUT: true; the input reads as it did. -/
def fnNumsSpec : ChangeSpec := { name := "fnNums", fn := fun _ => fun
  | [d] => { results := [.lit (.bool true)], args := [d] }
  | _ => none }
def fnNumsRow : OpenClaim := { program := "ytplgbnalflpdhaa", sum := "7fa79e27d482451677f8827030b6117111d5add3ea0bb92861fb430cbbb3e28c", func := "loop.example/g00118/laws.FnNums", spec := "fnNums", apart := false }
def FnNumsSaid : Prop := fnNumsRow.holds Try.pinned (OpenSpec.ofChange fnNumsSpec)

/-- ITS FALSE NEIGHBOUR: 'it returns false'. Refute it at one input. -/
def fnNumsWrong : ChangeSpec := { name := "fnNums", fn := fun _ => fun
  | [d] => { results := [.lit (.bool false)], args := [d] }
  | _ => none }
def FnNumsWrongFalsely : Prop := fnNumsRow.holds Try.pinned (OpenSpec.ofChange fnNumsWrong)

/-- 'laws.FnExactAttrsSame': WHATEVER THE INPUT: true; the input reads as it did. -/
def fnExactAttrsSameSpec : ChangeSpec := { name := "fnExactAttrsSame", fn := fun _ => fun
  | [d1, d2] => { results := [.lit (.bool true)], args := [d1, d2] }
  | _ => none }
def fnExactAttrsSameRow : OpenClaim := { program := "ytplgbnalflpdhaa", sum := "7fa79e27d482451677f8827030b6117111d5add3ea0bb92861fb430cbbb3e28c", func := "loop.example/g00118/laws.FnExactAttrsSame", spec := "fnExactAttrsSame", unfollowed := true, recurses := true, apart := false }
def FnExactAttrsSameSaid : Prop := fnExactAttrsSameRow.holds Try.pinned (OpenSpec.ofChange fnExactAttrsSameSpec)

/-- ITS FALSE NEIGHBOUR: 'it returns false'. Refute it at one input. -/
def fnExactAttrsSameWrong : ChangeSpec := { name := "fnExactAttrsSame", fn := fun _ => fun
  | [d1, d2] => { results := [.lit (.bool false)], args := [d1, d2] }
  | _ => none }
def FnExactAttrsSameWrongFalsely : Prop := fnExactAttrsSameRow.holds Try.pinned (OpenSpec.ofChange fnExactAttrsSameWrong)

/-- 'laws.FnExactIsBlock': WHATEVER THE INPUT: true; the input reads as it did. -/
def fnExactIsBlockSpec : ChangeSpec := { name := "fnExactIsBlock", fn := fun _ => fun
  | [d] => { results := [.lit (.bool true)], args := [d] }
  | _ => none }
def fnExactIsBlockRow : OpenClaim := { program := "ytplgbnalflpdhaa", sum := "7fa79e27d482451677f8827030b6117111d5add3ea0bb92861fb430cbbb3e28c", func := "loop.example/g00118/laws.FnExactIsBlock", spec := "fnExactIsBlock", inPlace := ["internal/bytealg.IndexByteString", "internal/bytealg.IndexString"], named := ["internal/bytealg.MaxLen"], apart := false }
def FnExactIsBlockSaid : Prop := fnExactIsBlockRow.holds Try.pinned (OpenSpec.ofChange fnExactIsBlockSpec)

/-- ITS FALSE NEIGHBOUR: 'it returns false'. Refute it at one input. -/
def fnExactIsBlockWrong : ChangeSpec := { name := "fnExactIsBlock", fn := fun _ => fun
  | [d] => { results := [.lit (.bool false)], args := [d] }
  | _ => none }
def FnExactIsBlockWrongFalsely : Prop := fnExactIsBlockRow.holds Try.pinned (OpenSpec.ofChange fnExactIsBlockWrong)

/-- 'laws.FnExactIsBound': WHATEVER THE INPUT: true; the input reads as it did. -/
def fnExactIsBoundSpec : ChangeSpec := { name := "fnExactIsBound", fn := fun _ => fun
  | [d] => { results := [.lit (.bool true)], args := [d] }
  | _ => none }
def fnExactIsBoundRow : OpenClaim := { program := "ytplgbnalflpdhaa", sum := "7fa79e27d482451677f8827030b6117111d5add3ea0bb92861fb430cbbb3e28c", func := "loop.example/g00118/laws.FnExactIsBound", spec := "fnExactIsBound", inPlace := ["internal/bytealg.IndexByteString", "internal/bytealg.IndexString"], named := ["internal/bytealg.MaxLen"], apart := false }
def FnExactIsBoundSaid : Prop := fnExactIsBoundRow.holds Try.pinned (OpenSpec.ofChange fnExactIsBoundSpec)

/-- ITS FALSE NEIGHBOUR: 'it returns false'. Refute it at one input. -/
def fnExactIsBoundWrong : ChangeSpec := { name := "fnExactIsBound", fn := fun _ => fun
  | [d] => { results := [.lit (.bool false)], args := [d] }
  | _ => none }
def FnExactIsBoundWrongFalsely : Prop := fnExactIsBoundRow.holds Try.pinned (OpenSpec.ofChange fnExactIsBoundWrong)

/-- 'laws.FnExactIsFormat': WHATEVER THE INPUT: true; the input reads as it did. -/
def fnExactIsFormatSpec : ChangeSpec := { name := "fnExactIsFormat", fn := fun _ => fun
  | [d] => { results := [.lit (.bool true)], args := [d] }
  | _ => none }
def fnExactIsFormatRow : OpenClaim := { program := "ytplgbnalflpdhaa", sum := "7fa79e27d482451677f8827030b6117111d5add3ea0bb92861fb430cbbb3e28c", func := "loop.example/g00118/laws.FnExactIsFormat", spec := "fnExactIsFormat", inPlace := ["internal/bytealg.IndexByteString", "internal/bytealg.IndexString"], named := ["internal/bytealg.MaxLen"], apart := false }
def FnExactIsFormatSaid : Prop := fnExactIsFormatRow.holds Try.pinned (OpenSpec.ofChange fnExactIsFormatSpec)

/-- ITS FALSE NEIGHBOUR: 'it returns false'. Refute it at one input. -/
def fnExactIsFormatWrong : ChangeSpec := { name := "fnExactIsFormat", fn := fun _ => fun
  | [d] => { results := [.lit (.bool false)], args := [d] }
  | _ => none }
def FnExactIsFormatWrongFalsely : Prop := fnExactIsFormatRow.holds Try.pinned (OpenSpec.ofChange fnExactIsFormatWrong)

/-- 'laws.FnExactIsRaw': WHATEVER THE INPUT: true; the input reads as it did. -/
def fnExactIsRawSpec : ChangeSpec := { name := "fnExactIsRaw", fn := fun _ => fun
  | [d] => { results := [.lit (.bool true)], args := [d] }
  | _ => none }
def fnExactIsRawRow : OpenClaim := { program := "ytplgbnalflpdhaa", sum := "7fa79e27d482451677f8827030b6117111d5add3ea0bb92861fb430cbbb3e28c", func := "loop.example/g00118/laws.FnExactIsRaw", spec := "fnExactIsRaw", inPlace := ["internal/bytealg.IndexByteString", "internal/bytealg.IndexString"], named := ["internal/bytealg.MaxLen"], apart := false }
def FnExactIsRawSaid : Prop := fnExactIsRawRow.holds Try.pinned (OpenSpec.ofChange fnExactIsRawSpec)

/-- ITS FALSE NEIGHBOUR: 'it returns false'. Refute it at one input. -/
def fnExactIsRawWrong : ChangeSpec := { name := "fnExactIsRaw", fn := fun _ => fun
  | [d] => { results := [.lit (.bool false)], args := [d] }
  | _ => none }
def FnExactIsRawWrongFalsely : Prop := fnExactIsRawRow.holds Try.pinned (OpenSpec.ofChange fnExactIsRawWrong)

/-- 'laws.FnExactIsVoid': WHATEVER THE INPUT: true; the input reads as it did. -/
def fnExactIsVoidSpec : ChangeSpec := { name := "fnExactIsVoid", fn := fun _ => fun
  | [d] => { results := [.lit (.bool true)], args := [d] }
  | _ => none }
def fnExactIsVoidRow : OpenClaim := { program := "ytplgbnalflpdhaa", sum := "7fa79e27d482451677f8827030b6117111d5add3ea0bb92861fb430cbbb3e28c", func := "loop.example/g00118/laws.FnExactIsVoid", spec := "fnExactIsVoid", inPlace := ["internal/bytealg.IndexByteString", "internal/bytealg.IndexString"], named := ["internal/bytealg.MaxLen"], apart := false }
def FnExactIsVoidSaid : Prop := fnExactIsVoidRow.holds Try.pinned (OpenSpec.ofChange fnExactIsVoidSpec)

/-- ITS FALSE NEIGHBOUR: 'it returns false'. Refute it at one input. -/
def fnExactIsVoidWrong : ChangeSpec := { name := "fnExactIsVoid", fn := fun _ => fun
  | [d] => { results := [.lit (.bool false)], args := [d] }
  | _ => none }
def FnExactIsVoidWrongFalsely : Prop := fnExactIsVoidRow.holds Try.pinned (OpenSpec.ofChange fnExactIsVoidWrong)

/-- 'laws.FnPoint': WHATEVER THE INPUT: true; the input reads as it did. -/
def fnPointSpec : ChangeSpec := { name := "fnPoint", fn := fun _ => fun
  | [d] => { results := [.lit (.bool true)], args := [d] }
  | _ => none }
def fnPointRow : OpenClaim := { program := "ytplgbnalflpdhaa", sum := "7fa79e27d482451677f8827030b6117111d5add3ea0bb92861fb430cbbb3e28c", func := "loop.example/g00118/laws.FnPoint", spec := "fnPoint", recurses := true, apart := false }
def FnPointSaid : Prop := fnPointRow.holds Try.pinned (OpenSpec.ofChange fnPointSpec)

/-- ITS FALSE NEIGHBOUR: 'it returns false'. Refute it at one input. -/
def fnPointWrong : ChangeSpec := { name := "fnPoint", fn := fun _ => fun
  | [d] => { results := [.lit (.bool false)], args := [d] }
  | _ => none }
def FnPointWrongFalsely : Prop := fnPointRow.holds Try.pinned (OpenSpec.ofChange fnPointWrong)

/-- 'laws.FnExactTreeNew': WHATEVER THE INPUT: true; the input reads as it did. -/
def fnExactTreeNewSpec : ChangeSpec := { name := "fnExactTreeNew", fn := fun _ => fun
  | [] => { results := [.lit (.bool true)], args := [] }
  | _ => none }
def fnExactTreeNewRow : OpenClaim := { program := "ytplgbnalflpdhaa", sum := "7fa79e27d482451677f8827030b6117111d5add3ea0bb92861fb430cbbb3e28c", func := "loop.example/g00118/laws.FnExactTreeNew", spec := "fnExactTreeNew", apart := false }
def FnExactTreeNewSaid : Prop := fnExactTreeNewRow.holds Try.pinned (OpenSpec.ofChange fnExactTreeNewSpec)

/-- ITS FALSE NEIGHBOUR: 'it returns false'. Refute it at one input. -/
def fnExactTreeNewWrong : ChangeSpec := { name := "fnExactTreeNew", fn := fun _ => fun
  | [] => { results := [.lit (.bool false)], args := [] }
  | _ => none }
def FnExactTreeNewWrongFalsely : Prop := fnExactTreeNewRow.holds Try.pinned (OpenSpec.ofChange fnExactTreeNewWrong)

/-- 'laws.FnExactUtfRead': WHATEVER THE INPUT: true; the input reads as it did. -/
def fnExactUtfReadSpec : ChangeSpec := { name := "fnExactUtfRead", fn := fun _ => fun
  | [d] => { results := [.lit (.bool true)], args := [d] }
  | _ => none }
def fnExactUtfReadRow : OpenClaim := { program := "ytplgbnalflpdhaa", sum := "7fa79e27d482451677f8827030b6117111d5add3ea0bb92861fb430cbbb3e28c", func := "loop.example/g00118/laws.FnExactUtfRead", spec := "fnExactUtfRead", apart := false }
def FnExactUtfReadSaid : Prop := fnExactUtfReadRow.holds Try.pinned (OpenSpec.ofChange fnExactUtfReadSpec)

/-- ITS FALSE NEIGHBOUR: 'it returns false'. Refute it at one input. -/
def fnExactUtfReadWrong : ChangeSpec := { name := "fnExactUtfRead", fn := fun _ => fun
  | [d] => { results := [.lit (.bool false)], args := [d] }
  | _ => none }
def FnExactUtfReadWrongFalsely : Prop := fnExactUtfReadRow.holds Try.pinned (OpenSpec.ofChange fnExactUtfReadWrong)

/-- 'laws.FnExactUtfOk': WHATEVER THE INPUT: true; the input reads as it did. -/
def fnExactUtfOkSpec : ChangeSpec := { name := "fnExactUtfOk", fn := fun _ => fun
  | [d] => { results := [.lit (.bool true)], args := [d] }
  | _ => none }
def fnExactUtfOkRow : OpenClaim := { program := "ytplgbnalflpdhaa", sum := "7fa79e27d482451677f8827030b6117111d5add3ea0bb92861fb430cbbb3e28c", func := "loop.example/g00118/laws.FnExactUtfOk", spec := "fnExactUtfOk", recurses := true, apart := false }
def FnExactUtfOkSaid : Prop := fnExactUtfOkRow.holds Try.pinned (OpenSpec.ofChange fnExactUtfOkSpec)

/-- ITS FALSE NEIGHBOUR: 'it returns false'. Refute it at one input. -/
def fnExactUtfOkWrong : ChangeSpec := { name := "fnExactUtfOk", fn := fun _ => fun
  | [d] => { results := [.lit (.bool false)], args := [d] }
  | _ => none }
def FnExactUtfOkWrongFalsely : Prop := fnExactUtfOkRow.holds Try.pinned (OpenSpec.ofChange fnExactUtfOkWrong)

/-- 'laws.FnExactNameOk': WHATEVER THE INPUT: true; the input reads as it did. -/
def fnExactNameOkSpec : ChangeSpec := { name := "fnExactNameOk", fn := fun _ => fun
  | [d] => { results := [.lit (.bool true)], args := [d] }
  | _ => none }
def fnExactNameOkRow : OpenClaim := { program := "ytplgbnalflpdhaa", sum := "7fa79e27d482451677f8827030b6117111d5add3ea0bb92861fb430cbbb3e28c", func := "loop.example/g00118/laws.FnExactNameOk", spec := "fnExactNameOk", recurses := true, apart := false }
def FnExactNameOkSaid : Prop := fnExactNameOkRow.holds Try.pinned (OpenSpec.ofChange fnExactNameOkSpec)

/-- ITS FALSE NEIGHBOUR: 'it returns false'. Refute it at one input. -/
def fnExactNameOkWrong : ChangeSpec := { name := "fnExactNameOk", fn := fun _ => fun
  | [d] => { results := [.lit (.bool false)], args := [d] }
  | _ => none }
def FnExactNameOkWrongFalsely : Prop := fnExactNameOkRow.holds Try.pinned (OpenSpec.ofChange fnExactNameOkWrong)

/-- 'laws.FnExactRefRead': WHATEVER THE INPUT: true; the input reads as it did. -/
def fnExactRefReadSpec : ChangeSpec := { name := "fnExactRefRead", fn := fun _ => fun
  | [d1, d2, d3] => { results := [.lit (.bool true)], args := [d1, d2, d3] }
  | _ => none }
def fnExactRefReadRow : OpenClaim := { program := "ytplgbnalflpdhaa", sum := "7fa79e27d482451677f8827030b6117111d5add3ea0bb92861fb430cbbb3e28c", func := "loop.example/g00118/laws.FnExactRefRead", spec := "fnExactRefRead", apart := false }
def FnExactRefReadSaid : Prop := fnExactRefReadRow.holds Try.pinned (OpenSpec.ofChange fnExactRefReadSpec)

/-- ITS FALSE NEIGHBOUR: 'it returns false'. Refute it at one input. -/
def fnExactRefReadWrong : ChangeSpec := { name := "fnExactRefRead", fn := fun _ => fun
  | [d1, d2, d3] => { results := [.lit (.bool false)], args := [d1, d2, d3] }
  | _ => none }
def FnExactRefReadWrongFalsely : Prop := fnExactRefReadRow.holds Try.pinned (OpenSpec.ofChange fnExactRefReadWrong)

/-- 'laws.FnUtf': WHATEVER THE INPUT: true; the input reads as it did. -/
def fnUtfSpec : ChangeSpec := { name := "fnUtf", fn := fun _ => fun
  | [d] => { results := [.lit (.bool true)], args := [d] }
  | _ => none }
def fnUtfRow : OpenClaim := { program := "ytplgbnalflpdhaa", sum := "7fa79e27d482451677f8827030b6117111d5add3ea0bb92861fb430cbbb3e28c", func := "loop.example/g00118/laws.FnUtf", spec := "fnUtf", recurses := true, apart := false }
def FnUtfSaid : Prop := fnUtfRow.holds Try.pinned (OpenSpec.ofChange fnUtfSpec)

/-- ITS FALSE NEIGHBOUR: 'it returns false'. Refute it at one input. -/
def fnUtfWrong : ChangeSpec := { name := "fnUtf", fn := fun _ => fun
  | [d] => { results := [.lit (.bool false)], args := [d] }
  | _ => none }
def FnUtfWrongFalsely : Prop := fnUtfRow.holds Try.pinned (OpenSpec.ofChange fnUtfWrong)

/-- 'laws.FnExactAttrsOk': WHATEVER THE INPUT: true; the input reads as it did. -/
def fnExactAttrsOkSpec : ChangeSpec := { name := "fnExactAttrsOk", fn := fun _ => fun
  | [d] => { results := [.lit (.bool true)], args := [d] }
  | _ => none }
def fnExactAttrsOkRow : OpenClaim := { program := "ytplgbnalflpdhaa", sum := "7fa79e27d482451677f8827030b6117111d5add3ea0bb92861fb430cbbb3e28c", func := "loop.example/g00118/laws.FnExactAttrsOk", spec := "fnExactAttrsOk", unfollowed := true, recurses := true, apart := false }
def FnExactAttrsOkSaid : Prop := fnExactAttrsOkRow.holds Try.pinned (OpenSpec.ofChange fnExactAttrsOkSpec)

/-- ITS FALSE NEIGHBOUR: 'it returns false'. Refute it at one input. -/
def fnExactAttrsOkWrong : ChangeSpec := { name := "fnExactAttrsOk", fn := fun _ => fun
  | [d] => { results := [.lit (.bool false)], args := [d] }
  | _ => none }
def FnExactAttrsOkWrongFalsely : Prop := fnExactAttrsOkRow.holds Try.pinned (OpenSpec.ofChange fnExactAttrsOkWrong)

/-- 'laws.FnLower': WHATEVER THE INPUT: true; the input reads as it did. -/
def fnLowerSpec : ChangeSpec := { name := "fnLower", fn := fun _ => fun
  | [d] => { results := [.lit (.bool true)], args := [d] }
  | _ => none }
def fnLowerRow : OpenClaim := { program := "ytplgbnalflpdhaa", sum := "7fa79e27d482451677f8827030b6117111d5add3ea0bb92861fb430cbbb3e28c", func := "loop.example/g00118/laws.FnLower", spec := "fnLower", recurses := true, apart := false }
def FnLowerSaid : Prop := fnLowerRow.holds Try.pinned (OpenSpec.ofChange fnLowerSpec)

/-- ITS FALSE NEIGHBOUR: 'it returns false'. Refute it at one input. -/
def fnLowerWrong : ChangeSpec := { name := "fnLower", fn := fun _ => fun
  | [d] => { results := [.lit (.bool false)], args := [d] }
  | _ => none }
def FnLowerWrongFalsely : Prop := fnLowerRow.holds Try.pinned (OpenSpec.ofChange fnLowerWrong)

/-- 'laws.FnExactAttrAdd': WHATEVER THE INPUT: true; the input reads as it did. -/
def fnExactAttrAddSpec : ChangeSpec := { name := "fnExactAttrAdd", fn := fun _ => fun
  | [d1, d2] => { results := [.lit (.bool true)], args := [d1, d2] }
  | _ => none }
def fnExactAttrAddRow : OpenClaim := { program := "ytplgbnalflpdhaa", sum := "7fa79e27d482451677f8827030b6117111d5add3ea0bb92861fb430cbbb3e28c", func := "loop.example/g00118/laws.FnExactAttrAdd", spec := "fnExactAttrAdd", unfollowed := true, recurses := true, apart := false }
def FnExactAttrAddSaid : Prop := fnExactAttrAddRow.holds Try.pinned (OpenSpec.ofChange fnExactAttrAddSpec)

/-- ITS FALSE NEIGHBOUR: 'it returns false'. Refute it at one input. -/
def fnExactAttrAddWrong : ChangeSpec := { name := "fnExactAttrAdd", fn := fun _ => fun
  | [d1, d2] => { results := [.lit (.bool false)], args := [d1, d2] }
  | _ => none }
def FnExactAttrAddWrongFalsely : Prop := fnExactAttrAddRow.holds Try.pinned (OpenSpec.ofChange fnExactAttrAddWrong)

/-- 'laws.FnRef': WHATEVER THE INPUT: true; the input reads as it did. -/
def fnRefSpec : ChangeSpec := { name := "fnRef", fn := fun _ => fun
  | [d] => { results := [.lit (.bool true)], args := [d] }
  | _ => none }
def fnRefRow : OpenClaim := { program := "ytplgbnalflpdhaa", sum := "7fa79e27d482451677f8827030b6117111d5add3ea0bb92861fb430cbbb3e28c", func := "loop.example/g00118/laws.FnRef", spec := "fnRef", apart := false }
def FnRefSaid : Prop := fnRefRow.holds Try.pinned (OpenSpec.ofChange fnRefSpec)

/-- ITS FALSE NEIGHBOUR: 'it returns false'. Refute it at one input. -/
def fnRefWrong : ChangeSpec := { name := "fnRef", fn := fun _ => fun
  | [d] => { results := [.lit (.bool false)], args := [d] }
  | _ => none }
def FnRefWrongFalsely : Prop := fnRefRow.holds Try.pinned (OpenSpec.ofChange fnRefWrong)

/-- 'laws.FnAttrs': WHATEVER THE INPUT: true; the input reads as it did. -/
def fnAttrsSpec : ChangeSpec := { name := "fnAttrs", fn := fun _ => fun
  | [d] => { results := [.lit (.bool true)], args := [d] }
  | _ => none }
def fnAttrsRow : OpenClaim := { program := "ytplgbnalflpdhaa", sum := "7fa79e27d482451677f8827030b6117111d5add3ea0bb92861fb430cbbb3e28c", func := "loop.example/g00118/laws.FnAttrs", spec := "fnAttrs", unfollowed := true, recurses := true, apart := false }
def FnAttrsSaid : Prop := fnAttrsRow.holds Try.pinned (OpenSpec.ofChange fnAttrsSpec)

/-- ITS FALSE NEIGHBOUR: 'it returns false'. Refute it at one input. -/
def fnAttrsWrong : ChangeSpec := { name := "fnAttrs", fn := fun _ => fun
  | [d] => { results := [.lit (.bool false)], args := [d] }
  | _ => none }
def FnAttrsWrongFalsely : Prop := fnAttrsRow.holds Try.pinned (OpenSpec.ofChange fnAttrsWrong)

/-- 'laws.FnAlike': WHATEVER THE INPUT: true; the input reads as it did. -/
def fnAlikeSpec : ChangeSpec := { name := "fnAlike", fn := fun _ => fun
  | [d] => { results := [.lit (.bool true)], args := [d] }
  | _ => none }
def fnAlikeRow : OpenClaim := { program := "ytplgbnalflpdhaa", sum := "7fa79e27d482451677f8827030b6117111d5add3ea0bb92861fb430cbbb3e28c", func := "loop.example/g00118/laws.FnAlike", spec := "fnAlike", unfollowed := true, recurses := true, apart := false }
def FnAlikeSaid : Prop := fnAlikeRow.holds Try.pinned (OpenSpec.ofChange fnAlikeSpec)

/-- ITS FALSE NEIGHBOUR: 'it returns false'. Refute it at one input. -/
def fnAlikeWrong : ChangeSpec := { name := "fnAlike", fn := fun _ => fun
  | [d] => { results := [.lit (.bool false)], args := [d] }
  | _ => none }
def FnAlikeWrongFalsely : Prop := fnAlikeRow.holds Try.pinned (OpenSpec.ofChange fnAlikeWrong)

/-- 'laws.FnExactTokenOk': WHATEVER THE INPUT: true; the input reads as it did. -/
def fnExactTokenOkSpec : ChangeSpec := { name := "fnExactTokenOk", fn := fun _ => fun
  | [d] => { results := [.lit (.bool true)], args := [d] }
  | _ => none }
def fnExactTokenOkRow : OpenClaim := { program := "ytplgbnalflpdhaa", sum := "7fa79e27d482451677f8827030b6117111d5add3ea0bb92861fb430cbbb3e28c", func := "loop.example/g00118/laws.FnExactTokenOk", spec := "fnExactTokenOk", unfollowed := true, recurses := true, apart := false }
def FnExactTokenOkSaid : Prop := fnExactTokenOkRow.holds Try.pinned (OpenSpec.ofChange fnExactTokenOkSpec)

/-- ITS FALSE NEIGHBOUR: 'it returns false'. Refute it at one input. -/
def fnExactTokenOkWrong : ChangeSpec := { name := "fnExactTokenOk", fn := fun _ => fun
  | [d] => { results := [.lit (.bool false)], args := [d] }
  | _ => none }
def FnExactTokenOkWrongFalsely : Prop := fnExactTokenOkRow.holds Try.pinned (OpenSpec.ofChange fnExactTokenOkWrong)

/- THE SECOND FORM. 'bulk': how many values and letters a reading holds, each counted each time it is reached (what is shared counts as often as it is met; a slice's spare places count too). A statement '..UptoSaid' is the law's where the arguments, and the package variables that the reading takes, are together of bulk at most 1048576: NARROWER than '..Said'. Prove '..Said' where nothing that the law and all that it calls make is longer than what came in: it says more and counts as full. Else prove '..UptoSaid'. A law counts once. -/
mutual
def uptoBulk {H : Type} : DataW H → Nat
  | .lit (.string bytes) => bytes.length + 1
  | .lit _ => 1
  | .nil => 1
  | .ptr d => uptoBulk d + 1
  | .slice elems spare => uptoBulkAll elems + uptoBulkAll spare + 1
  | .agg parts => uptoBulkAll parts + 1
  | .iface _ d => uptoBulk d + 1
  | .map entries => uptoBulkEntries entries + 1
  | .held _ => 1
def uptoBulkAll {H : Type} : List (DataW H) → Nat
  | [] => 0
  | d :: r => uptoBulk d + uptoBulkAll r
def uptoBulkEntries {H : Type} : List (Lit × DataW H) → Nat
  | [] => 0
  | x :: r => uptoBulkEntry x + uptoBulkEntries r
def uptoBulkEntry {H : Type} : Lit × DataW H → Nat
  | (.string bytes, d) => bytes.length + uptoBulk d + 1
  | (_, d) => uptoBulk d + 1
 end
def uptoSmall : (H : Type) → List (DataW H) → Bool := fun _ ds => decide (uptoBulkAll ds ≤ 1048576)
def OpenSpec.upto (s : _root_.Go.ChangeSpec) : _root_.Go.OpenSpec := { _root_.Go.OpenSpec.ofChange s with cond := some uptoSmall }

/-- 'laws.FnExactRefNumber', WHERE WHAT IT READS IS OF BULK AT MOST 1048576: true; the input reads as it did. -/
def fnExactRefNumberUptoRow : OpenClaim := { program := "ytplgbnalflpdhaa", sum := "7fa79e27d482451677f8827030b6117111d5add3ea0bb92861fb430cbbb3e28c", func := "loop.example/g00118/laws.FnExactRefNumber", spec := "fnExactRefNumber", apart := false, narrowed := true }
def FnExactRefNumberUptoSaid : Prop := fnExactRefNumberUptoRow.holds Try.pinned (OpenSpec.upto fnExactRefNumberSpec)

/-- 'laws.FnExactLowerText', WHERE WHAT IT READS IS OF BULK AT MOST 1048576: true; the input reads as it did. -/
def fnExactLowerTextUptoRow : OpenClaim := { program := "ytplgbnalflpdhaa", sum := "7fa79e27d482451677f8827030b6117111d5add3ea0bb92861fb430cbbb3e28c", func := "loop.example/g00118/laws.FnExactLowerText", spec := "fnExactLowerText", apart := false, narrowed := true }
def FnExactLowerTextUptoSaid : Prop := fnExactLowerTextUptoRow.holds Try.pinned (OpenSpec.upto fnExactLowerTextSpec)

/-- 'laws.FnExactPutText', WHERE WHAT IT READS IS OF BULK AT MOST 1048576: true; the input reads as it did. -/
def fnExactPutTextUptoRow : OpenClaim := { program := "ytplgbnalflpdhaa", sum := "7fa79e27d482451677f8827030b6117111d5add3ea0bb92861fb430cbbb3e28c", func := "loop.example/g00118/laws.FnExactPutText", spec := "fnExactPutText", apart := false, narrowed := true }
def FnExactPutTextUptoSaid : Prop := fnExactPutTextUptoRow.holds Try.pinned (OpenSpec.upto fnExactPutTextSpec)

/-- 'laws.FnExactGetNum', WHERE WHAT IT READS IS OF BULK AT MOST 1048576: true; the input reads as it did. -/
def fnExactGetNumUptoRow : OpenClaim := { program := "ytplgbnalflpdhaa", sum := "7fa79e27d482451677f8827030b6117111d5add3ea0bb92861fb430cbbb3e28c", func := "loop.example/g00118/laws.FnExactGetNum", spec := "fnExactGetNum", apart := false, narrowed := true }
def FnExactGetNumUptoSaid : Prop := fnExactGetNumUptoRow.holds Try.pinned (OpenSpec.upto fnExactGetNumSpec)

/-- 'laws.FnRefNumber', WHERE WHAT IT READS IS OF BULK AT MOST 1048576: true; the input reads as it did. -/
def fnRefNumberUptoRow : OpenClaim := { program := "ytplgbnalflpdhaa", sum := "7fa79e27d482451677f8827030b6117111d5add3ea0bb92861fb430cbbb3e28c", func := "loop.example/g00118/laws.FnRefNumber", spec := "fnRefNumber", apart := false, narrowed := true }
def FnRefNumberUptoSaid : Prop := fnRefNumberUptoRow.holds Try.pinned (OpenSpec.upto fnRefNumberSpec)

/-- 'laws.FnExactLinesOf', WHERE WHAT IT READS IS OF BULK AT MOST 1048576: true; the input reads as it did. -/
def fnExactLinesOfUptoRow : OpenClaim := { program := "ytplgbnalflpdhaa", sum := "7fa79e27d482451677f8827030b6117111d5add3ea0bb92861fb430cbbb3e28c", func := "loop.example/g00118/laws.FnExactLinesOf", spec := "fnExactLinesOf", apart := false, narrowed := true }
def FnExactLinesOfUptoSaid : Prop := fnExactLinesOfUptoRow.holds Try.pinned (OpenSpec.upto fnExactLinesOfSpec)

/-- 'laws.FnExactAttrOf', WHERE WHAT IT READS IS OF BULK AT MOST 1048576: true; the input reads as it did. -/
def fnExactAttrOfUptoRow : OpenClaim := { program := "ytplgbnalflpdhaa", sum := "7fa79e27d482451677f8827030b6117111d5add3ea0bb92861fb430cbbb3e28c", func := "loop.example/g00118/laws.FnExactAttrOf", spec := "fnExactAttrOf", unfollowed := true, recurses := true, apart := false, narrowed := true }
def FnExactAttrOfUptoSaid : Prop := fnExactAttrOfUptoRow.holds Try.pinned (OpenSpec.upto fnExactAttrOfSpec)

/-- 'laws.FnLines', WHERE WHAT IT READS IS OF BULK AT MOST 1048576: true; the input reads as it did. -/
def fnLinesUptoRow : OpenClaim := { program := "ytplgbnalflpdhaa", sum := "7fa79e27d482451677f8827030b6117111d5add3ea0bb92861fb430cbbb3e28c", func := "loop.example/g00118/laws.FnLines", spec := "fnLines", apart := false, narrowed := true }
def FnLinesUptoSaid : Prop := fnLinesUptoRow.holds Try.pinned (OpenSpec.upto fnLinesSpec)

/-- 'laws.FnNums', WHERE WHAT IT READS IS OF BULK AT MOST 1048576: true; the input reads as it did. -/
def fnNumsUptoRow : OpenClaim := { program := "ytplgbnalflpdhaa", sum := "7fa79e27d482451677f8827030b6117111d5add3ea0bb92861fb430cbbb3e28c", func := "loop.example/g00118/laws.FnNums", spec := "fnNums", apart := false, narrowed := true }
def FnNumsUptoSaid : Prop := fnNumsUptoRow.holds Try.pinned (OpenSpec.upto fnNumsSpec)

/-- 'laws.FnExactAttrsSame', WHERE WHAT IT READS IS OF BULK AT MOST 1048576: true; the input reads as it did. -/
def fnExactAttrsSameUptoRow : OpenClaim := { program := "ytplgbnalflpdhaa", sum := "7fa79e27d482451677f8827030b6117111d5add3ea0bb92861fb430cbbb3e28c", func := "loop.example/g00118/laws.FnExactAttrsSame", spec := "fnExactAttrsSame", unfollowed := true, recurses := true, apart := false, narrowed := true }
def FnExactAttrsSameUptoSaid : Prop := fnExactAttrsSameUptoRow.holds Try.pinned (OpenSpec.upto fnExactAttrsSameSpec)

/-- 'laws.FnExactIsBlock', WHERE WHAT IT READS IS OF BULK AT MOST 1048576: true; the input reads as it did. -/
def fnExactIsBlockUptoRow : OpenClaim := { program := "ytplgbnalflpdhaa", sum := "7fa79e27d482451677f8827030b6117111d5add3ea0bb92861fb430cbbb3e28c", func := "loop.example/g00118/laws.FnExactIsBlock", spec := "fnExactIsBlock", inPlace := ["internal/bytealg.IndexByteString", "internal/bytealg.IndexString"], named := ["internal/bytealg.MaxLen"], apart := false, narrowed := true }
def FnExactIsBlockUptoSaid : Prop := fnExactIsBlockUptoRow.holds Try.pinned (OpenSpec.upto fnExactIsBlockSpec)

/-- 'laws.FnExactIsBound', WHERE WHAT IT READS IS OF BULK AT MOST 1048576: true; the input reads as it did. -/
def fnExactIsBoundUptoRow : OpenClaim := { program := "ytplgbnalflpdhaa", sum := "7fa79e27d482451677f8827030b6117111d5add3ea0bb92861fb430cbbb3e28c", func := "loop.example/g00118/laws.FnExactIsBound", spec := "fnExactIsBound", inPlace := ["internal/bytealg.IndexByteString", "internal/bytealg.IndexString"], named := ["internal/bytealg.MaxLen"], apart := false, narrowed := true }
def FnExactIsBoundUptoSaid : Prop := fnExactIsBoundUptoRow.holds Try.pinned (OpenSpec.upto fnExactIsBoundSpec)

/-- 'laws.FnExactIsFormat', WHERE WHAT IT READS IS OF BULK AT MOST 1048576: true; the input reads as it did. -/
def fnExactIsFormatUptoRow : OpenClaim := { program := "ytplgbnalflpdhaa", sum := "7fa79e27d482451677f8827030b6117111d5add3ea0bb92861fb430cbbb3e28c", func := "loop.example/g00118/laws.FnExactIsFormat", spec := "fnExactIsFormat", inPlace := ["internal/bytealg.IndexByteString", "internal/bytealg.IndexString"], named := ["internal/bytealg.MaxLen"], apart := false, narrowed := true }
def FnExactIsFormatUptoSaid : Prop := fnExactIsFormatUptoRow.holds Try.pinned (OpenSpec.upto fnExactIsFormatSpec)

/-- 'laws.FnExactIsRaw', WHERE WHAT IT READS IS OF BULK AT MOST 1048576: true; the input reads as it did. -/
def fnExactIsRawUptoRow : OpenClaim := { program := "ytplgbnalflpdhaa", sum := "7fa79e27d482451677f8827030b6117111d5add3ea0bb92861fb430cbbb3e28c", func := "loop.example/g00118/laws.FnExactIsRaw", spec := "fnExactIsRaw", inPlace := ["internal/bytealg.IndexByteString", "internal/bytealg.IndexString"], named := ["internal/bytealg.MaxLen"], apart := false, narrowed := true }
def FnExactIsRawUptoSaid : Prop := fnExactIsRawUptoRow.holds Try.pinned (OpenSpec.upto fnExactIsRawSpec)

/-- 'laws.FnExactIsVoid', WHERE WHAT IT READS IS OF BULK AT MOST 1048576: true; the input reads as it did. -/
def fnExactIsVoidUptoRow : OpenClaim := { program := "ytplgbnalflpdhaa", sum := "7fa79e27d482451677f8827030b6117111d5add3ea0bb92861fb430cbbb3e28c", func := "loop.example/g00118/laws.FnExactIsVoid", spec := "fnExactIsVoid", inPlace := ["internal/bytealg.IndexByteString", "internal/bytealg.IndexString"], named := ["internal/bytealg.MaxLen"], apart := false, narrowed := true }
def FnExactIsVoidUptoSaid : Prop := fnExactIsVoidUptoRow.holds Try.pinned (OpenSpec.upto fnExactIsVoidSpec)

/-- 'laws.FnPoint', WHERE WHAT IT READS IS OF BULK AT MOST 1048576: true; the input reads as it did. -/
def fnPointUptoRow : OpenClaim := { program := "ytplgbnalflpdhaa", sum := "7fa79e27d482451677f8827030b6117111d5add3ea0bb92861fb430cbbb3e28c", func := "loop.example/g00118/laws.FnPoint", spec := "fnPoint", recurses := true, apart := false, narrowed := true }
def FnPointUptoSaid : Prop := fnPointUptoRow.holds Try.pinned (OpenSpec.upto fnPointSpec)

/-- 'laws.FnExactTreeNew', WHERE WHAT IT READS IS OF BULK AT MOST 1048576: true; the input reads as it did. -/
def fnExactTreeNewUptoRow : OpenClaim := { program := "ytplgbnalflpdhaa", sum := "7fa79e27d482451677f8827030b6117111d5add3ea0bb92861fb430cbbb3e28c", func := "loop.example/g00118/laws.FnExactTreeNew", spec := "fnExactTreeNew", apart := false, narrowed := true }
def FnExactTreeNewUptoSaid : Prop := fnExactTreeNewUptoRow.holds Try.pinned (OpenSpec.upto fnExactTreeNewSpec)

/-- 'laws.FnExactUtfRead', WHERE WHAT IT READS IS OF BULK AT MOST 1048576: true; the input reads as it did. -/
def fnExactUtfReadUptoRow : OpenClaim := { program := "ytplgbnalflpdhaa", sum := "7fa79e27d482451677f8827030b6117111d5add3ea0bb92861fb430cbbb3e28c", func := "loop.example/g00118/laws.FnExactUtfRead", spec := "fnExactUtfRead", apart := false, narrowed := true }
def FnExactUtfReadUptoSaid : Prop := fnExactUtfReadUptoRow.holds Try.pinned (OpenSpec.upto fnExactUtfReadSpec)

/-- 'laws.FnExactUtfOk', WHERE WHAT IT READS IS OF BULK AT MOST 1048576: true; the input reads as it did. -/
def fnExactUtfOkUptoRow : OpenClaim := { program := "ytplgbnalflpdhaa", sum := "7fa79e27d482451677f8827030b6117111d5add3ea0bb92861fb430cbbb3e28c", func := "loop.example/g00118/laws.FnExactUtfOk", spec := "fnExactUtfOk", recurses := true, apart := false, narrowed := true }
def FnExactUtfOkUptoSaid : Prop := fnExactUtfOkUptoRow.holds Try.pinned (OpenSpec.upto fnExactUtfOkSpec)

/-- 'laws.FnExactNameOk', WHERE WHAT IT READS IS OF BULK AT MOST 1048576: true; the input reads as it did. -/
def fnExactNameOkUptoRow : OpenClaim := { program := "ytplgbnalflpdhaa", sum := "7fa79e27d482451677f8827030b6117111d5add3ea0bb92861fb430cbbb3e28c", func := "loop.example/g00118/laws.FnExactNameOk", spec := "fnExactNameOk", recurses := true, apart := false, narrowed := true }
def FnExactNameOkUptoSaid : Prop := fnExactNameOkUptoRow.holds Try.pinned (OpenSpec.upto fnExactNameOkSpec)

/-- 'laws.FnExactRefRead', WHERE WHAT IT READS IS OF BULK AT MOST 1048576: true; the input reads as it did. -/
def fnExactRefReadUptoRow : OpenClaim := { program := "ytplgbnalflpdhaa", sum := "7fa79e27d482451677f8827030b6117111d5add3ea0bb92861fb430cbbb3e28c", func := "loop.example/g00118/laws.FnExactRefRead", spec := "fnExactRefRead", apart := false, narrowed := true }
def FnExactRefReadUptoSaid : Prop := fnExactRefReadUptoRow.holds Try.pinned (OpenSpec.upto fnExactRefReadSpec)

/-- 'laws.FnUtf', WHERE WHAT IT READS IS OF BULK AT MOST 1048576: true; the input reads as it did. -/
def fnUtfUptoRow : OpenClaim := { program := "ytplgbnalflpdhaa", sum := "7fa79e27d482451677f8827030b6117111d5add3ea0bb92861fb430cbbb3e28c", func := "loop.example/g00118/laws.FnUtf", spec := "fnUtf", recurses := true, apart := false, narrowed := true }
def FnUtfUptoSaid : Prop := fnUtfUptoRow.holds Try.pinned (OpenSpec.upto fnUtfSpec)

/-- 'laws.FnExactAttrsOk', WHERE WHAT IT READS IS OF BULK AT MOST 1048576: true; the input reads as it did. -/
def fnExactAttrsOkUptoRow : OpenClaim := { program := "ytplgbnalflpdhaa", sum := "7fa79e27d482451677f8827030b6117111d5add3ea0bb92861fb430cbbb3e28c", func := "loop.example/g00118/laws.FnExactAttrsOk", spec := "fnExactAttrsOk", unfollowed := true, recurses := true, apart := false, narrowed := true }
def FnExactAttrsOkUptoSaid : Prop := fnExactAttrsOkUptoRow.holds Try.pinned (OpenSpec.upto fnExactAttrsOkSpec)

/-- 'laws.FnLower', WHERE WHAT IT READS IS OF BULK AT MOST 1048576: true; the input reads as it did. -/
def fnLowerUptoRow : OpenClaim := { program := "ytplgbnalflpdhaa", sum := "7fa79e27d482451677f8827030b6117111d5add3ea0bb92861fb430cbbb3e28c", func := "loop.example/g00118/laws.FnLower", spec := "fnLower", recurses := true, apart := false, narrowed := true }
def FnLowerUptoSaid : Prop := fnLowerUptoRow.holds Try.pinned (OpenSpec.upto fnLowerSpec)

/-- 'laws.FnExactAttrAdd', WHERE WHAT IT READS IS OF BULK AT MOST 1048576: true; the input reads as it did. -/
def fnExactAttrAddUptoRow : OpenClaim := { program := "ytplgbnalflpdhaa", sum := "7fa79e27d482451677f8827030b6117111d5add3ea0bb92861fb430cbbb3e28c", func := "loop.example/g00118/laws.FnExactAttrAdd", spec := "fnExactAttrAdd", unfollowed := true, recurses := true, apart := false, narrowed := true }
def FnExactAttrAddUptoSaid : Prop := fnExactAttrAddUptoRow.holds Try.pinned (OpenSpec.upto fnExactAttrAddSpec)

/-- 'laws.FnRef', WHERE WHAT IT READS IS OF BULK AT MOST 1048576: true; the input reads as it did. -/
def fnRefUptoRow : OpenClaim := { program := "ytplgbnalflpdhaa", sum := "7fa79e27d482451677f8827030b6117111d5add3ea0bb92861fb430cbbb3e28c", func := "loop.example/g00118/laws.FnRef", spec := "fnRef", apart := false, narrowed := true }
def FnRefUptoSaid : Prop := fnRefUptoRow.holds Try.pinned (OpenSpec.upto fnRefSpec)

/-- 'laws.FnAttrs', WHERE WHAT IT READS IS OF BULK AT MOST 1048576: true; the input reads as it did. -/
def fnAttrsUptoRow : OpenClaim := { program := "ytplgbnalflpdhaa", sum := "7fa79e27d482451677f8827030b6117111d5add3ea0bb92861fb430cbbb3e28c", func := "loop.example/g00118/laws.FnAttrs", spec := "fnAttrs", unfollowed := true, recurses := true, apart := false, narrowed := true }
def FnAttrsUptoSaid : Prop := fnAttrsUptoRow.holds Try.pinned (OpenSpec.upto fnAttrsSpec)

/-- 'laws.FnAlike', WHERE WHAT IT READS IS OF BULK AT MOST 1048576: true; the input reads as it did. -/
def fnAlikeUptoRow : OpenClaim := { program := "ytplgbnalflpdhaa", sum := "7fa79e27d482451677f8827030b6117111d5add3ea0bb92861fb430cbbb3e28c", func := "loop.example/g00118/laws.FnAlike", spec := "fnAlike", unfollowed := true, recurses := true, apart := false, narrowed := true }
def FnAlikeUptoSaid : Prop := fnAlikeUptoRow.holds Try.pinned (OpenSpec.upto fnAlikeSpec)

/-- 'laws.FnExactTokenOk', WHERE WHAT IT READS IS OF BULK AT MOST 1048576: true; the input reads as it did. -/
def fnExactTokenOkUptoRow : OpenClaim := { program := "ytplgbnalflpdhaa", sum := "7fa79e27d482451677f8827030b6117111d5add3ea0bb92861fb430cbbb3e28c", func := "loop.example/g00118/laws.FnExactTokenOk", spec := "fnExactTokenOk", unfollowed := true, recurses := true, apart := false, narrowed := true }
def FnExactTokenOkUptoSaid : Prop := fnExactTokenOkUptoRow.holds Try.pinned (OpenSpec.upto fnExactTokenOkSpec)

end Rows
end Go.Proofs.Ytplgbnalflpdhaa
