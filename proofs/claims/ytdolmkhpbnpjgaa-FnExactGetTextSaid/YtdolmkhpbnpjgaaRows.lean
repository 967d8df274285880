/-
  No cell of these rows narrows 'for every input' (looked for: loops, veiled, ifaces, maps, wideKeys, modest, calm, conditions, laid).
  DERIVED. THE GIVEN ROWS OF THIS SEAT. 35 by the template 'for every input the law returns true; each argument reads behind the call as it read before'; 0 by the template 'total and deterministic' (their statements: YtdolmkhpbnpjgaaTotals.lean).
  GIVEN WITH THE SEED: the statements are not yours to turn. If you find one false, say at which input.
  Laid BY PROGRAM, IN A SANDBOX (cutbox-rows.mjs): the forced cells as the released guide's own fill.sh prints them over the translation bf27ca5402fa9199… (all of the seat's roots in one cut). By AI agents, Wed Nov 11 2026. No macro, syntax, notation, axiom, sorry.
-/
import Derived.Test.YtdolmkhpbnpjgaaChecked
import GoSem.Claim
import GoSem.ClaimJoined
import GoSem.ClaimMapViews
import Derived.JoinedTies
import Derived.KernelRfl
namespace Go.Proofs.Ytdolmkhpbnpjgaa
/- THE CELL 'sum', in the pinned program and in every row, IS THE sha256 OF THE DUMP (.gsa) THAT YtdolmkhpbnpjgaaProg.lean LOADS. Nothing in Lean hashes anything: it is a label: what it is worth is what the hold of that sum in a sandbox is worth. -/
noncomputable def Try.pinned : Pinned := { name := "ytdolmkhpbnpjgaa", sum := "bf27ca5402fa91994a6da39d8bbafdb3ae987c342cb026d89a78ba51ec90700e", checked := Try.checked }
namespace Rows
def none {H : Type} : Left H := { results := [], args := [] }

/-- 'laws.FnExactTreePack': WHATEVER THE INPUT: true; the input reads as it did. -/
def fnExactTreePackSpec : ChangeSpec := { name := "fnExactTreePack", fn := fun _ => fun
  | [d] => { results := [.lit (.bool true)], args := [d] }
  | _ => none }
def fnExactTreePackRow : OpenClaim := { program := "ytdolmkhpbnpjgaa", sum := "bf27ca5402fa91994a6da39d8bbafdb3ae987c342cb026d89a78ba51ec90700e", func := "loop.example/g00118/laws.FnExactTreePack", spec := "fnExactTreePack", unfollowed := true, recurses := true, apart := false }
def FnExactTreePackSaid : Prop := fnExactTreePackRow.holds Try.pinned (OpenSpec.ofChange fnExactTreePackSpec)

/-- ITS FALSE NEIGHBOUR: 'it returns false'. Refute it at one input. -/
def fnExactTreePackWrong : ChangeSpec := { name := "fnExactTreePack", fn := fun _ => fun
  | [d] => { results := [.lit (.bool false)], args := [d] }
  | _ => none }
def FnExactTreePackWrongFalsely : Prop := fnExactTreePackRow.holds Try.pinned (OpenSpec.ofChange fnExactTreePackWrong)

/-- 'laws.FnExactPointPut': WHATEVER THE INPUT: true; the input reads as it did. -/
def fnExactPointPutSpec : ChangeSpec := { name := "fnExactPointPut", fn := fun _ => fun
  | [d] => { results := [.lit (.bool true)], args := [d] }
  | _ => none }
def fnExactPointPutRow : OpenClaim := { program := "ytdolmkhpbnpjgaa", sum := "bf27ca5402fa91994a6da39d8bbafdb3ae987c342cb026d89a78ba51ec90700e", func := "loop.example/g00118/laws.FnExactPointPut", spec := "fnExactPointPut", recurses := true, apart := false }
def FnExactPointPutSaid : Prop := fnExactPointPutRow.holds Try.pinned (OpenSpec.ofChange fnExactPointPutSpec)

/-- ITS FALSE NEIGHBOUR: 'it returns false'. Refute it at one input. -/
def fnExactPointPutWrong : ChangeSpec := { name := "fnExactPointPut", fn := fun _ => fun
  | [d] => { results := [.lit (.bool false)], args := [d] }
  | _ => none }
def FnExactPointPutWrongFalsely : Prop := fnExactPointPutRow.holds Try.pinned (OpenSpec.ofChange fnExactPointPutWrong)

/-- 'laws.FnRefNumber': WHATEVER THE INPUT: true; the input reads as it did. -/
def fnRefNumberSpec : ChangeSpec := { name := "fnRefNumber", fn := fun _ => fun
  | [d] => { results := [.lit (.bool true)], args := [d] }
  | _ => none }
def fnRefNumberRow : OpenClaim := { program := "ytdolmkhpbnpjgaa", sum := "bf27ca5402fa91994a6da39d8bbafdb3ae987c342cb026d89a78ba51ec90700e", func := "loop.example/g00118/laws.FnRefNumber", spec := "fnRefNumber", apart := false }
def FnRefNumberSaid : Prop := fnRefNumberRow.holds Try.pinned (OpenSpec.ofChange fnRefNumberSpec)

/-- ITS FALSE NEIGHBOUR: 'it returns false'. Refute it at one input. -/
def fnRefNumberWrong : ChangeSpec := { name := "fnRefNumber", fn := fun _ => fun
  | [d] => { results := [.lit (.bool false)], args := [d] }
  | _ => none }
def FnRefNumberWrongFalsely : Prop := fnRefNumberRow.holds Try.pinned (OpenSpec.ofChange fnRefNumberWrong)

/-- 'laws.FnExactGetText': WHATEVER THE INPUT: true; the input reads as it did. -/
def fnExactGetTextSpec : ChangeSpec := { name := "fnExactGetText", fn := fun _ => fun
  | [d1, d2] => { results := [.lit (.bool true)], args := [d1, d2] }
  | _ => none }
def fnExactGetTextRow : OpenClaim := { program := "ytdolmkhpbnpjgaa", sum := "bf27ca5402fa91994a6da39d8bbafdb3ae987c342cb026d89a78ba51ec90700e", func := "loop.example/g00118/laws.FnExactGetText", spec := "fnExactGetText", apart := false }
def FnExactGetTextSaid : Prop := fnExactGetTextRow.holds Try.pinned (OpenSpec.ofChange fnExactGetTextSpec)

/-- ITS FALSE NEIGHBOUR: 'it returns false'. Refute it at one input. -/
def fnExactGetTextWrong : ChangeSpec := { name := "fnExactGetText", fn := fun _ => fun
  | [d1, d2] => { results := [.lit (.bool false)], args := [d1, d2] }
  | _ => none }
def FnExactGetTextWrongFalsely : Prop := fnExactGetTextRow.holds Try.pinned (OpenSpec.ofChange fnExactGetTextWrong)

/-- 'laws.FnExactLinesOf': WHATEVER THE INPUT: true; the input reads as it did. -/
def fnExactLinesOfSpec : ChangeSpec := { name := "fnExactLinesOf", fn := fun _ => fun
  | [d] => { results := [.lit (.bool true)], args := [d] }
  | _ => none }
def fnExactLinesOfRow : OpenClaim := { program := "ytdolmkhpbnpjgaa", sum := "bf27ca5402fa91994a6da39d8bbafdb3ae987c342cb026d89a78ba51ec90700e", func := "loop.example/g00118/laws.FnExactLinesOf", spec := "fnExactLinesOf", apart := false }
def FnExactLinesOfSaid : Prop := fnExactLinesOfRow.holds Try.pinned (OpenSpec.ofChange fnExactLinesOfSpec)

/-- ITS FALSE NEIGHBOUR: 'it returns false'. Refute it at one input. -/
def fnExactLinesOfWrong : ChangeSpec := { name := "fnExactLinesOf", fn := fun _ => fun
  | [d] => { results := [.lit (.bool false)], args := [d] }
  | _ => none }
def FnExactLinesOfWrongFalsely : Prop := fnExactLinesOfRow.holds Try.pinned (OpenSpec.ofChange fnExactLinesOfWrong)

/-- 'laws.FnExactAttrOf': WHATEVER THE INPUT: true; the input reads as it did. -/
def fnExactAttrOfSpec : ChangeSpec := { name := "fnExactAttrOf", fn := fun _ => fun
  | [d1, d2] => { results := [.lit (.bool true)], args := [d1, d2] }
  | _ => none }
def fnExactAttrOfRow : OpenClaim := { program := "ytdolmkhpbnpjgaa", sum := "bf27ca5402fa91994a6da39d8bbafdb3ae987c342cb026d89a78ba51ec90700e", func := "loop.example/g00118/laws.FnExactAttrOf", spec := "fnExactAttrOf", unfollowed := true, recurses := true, apart := false }
def FnExactAttrOfSaid : Prop := fnExactAttrOfRow.holds Try.pinned (OpenSpec.ofChange fnExactAttrOfSpec)

/-- ITS FALSE NEIGHBOUR: 'it returns false'. Refute it at one input. -/
def fnExactAttrOfWrong : ChangeSpec := { name := "fnExactAttrOf", fn := fun _ => fun
  | [d1, d2] => { results := [.lit (.bool false)], args := [d1, d2] }
  | _ => none }
def FnExactAttrOfWrongFalsely : Prop := fnExactAttrOfRow.holds Try.pinned (OpenSpec.ofChange fnExactAttrOfWrong)

/-- 'laws.FnLines': WHATEVER THE INPUT: true; the input reads as it did. -/
def fnLinesSpec : ChangeSpec := { name := "fnLines", fn := fun _ => fun
  | [d] => { results := [.lit (.bool true)], args := [d] }
  | _ => none }
def fnLinesRow : OpenClaim := { program := "ytdolmkhpbnpjgaa", sum := "bf27ca5402fa91994a6da39d8bbafdb3ae987c342cb026d89a78ba51ec90700e", func := "loop.example/g00118/laws.FnLines", spec := "fnLines", apart := false }
def FnLinesSaid : Prop := fnLinesRow.holds Try.pinned (OpenSpec.ofChange fnLinesSpec)

/-- ITS FALSE NEIGHBOUR: 'it returns false'. Refute it at one input. -/
def fnLinesWrong : ChangeSpec := { name := "fnLines", fn := fun _ => fun
  | [d] => { results := [.lit (.bool false)], args := [d] }
  | _ => none }
def FnLinesWrongFalsely : Prop := fnLinesRow.holds Try.pinned (OpenSpec.ofChange fnLinesWrong)

/-- 'laws.FnNums': WHATEVER THE INPUT: true; the input reads as it did. -/
def fnNumsSpec : ChangeSpec := { name := "fnNums", fn := fun _ => fun
  | [d] => { results := [.lit (.bool true)], args := [d] }
  | _ => none }
def fnNumsRow : OpenClaim := { program := "ytdolmkhpbnpjgaa", sum := "bf27ca5402fa91994a6da39d8bbafdb3ae987c342cb026d89a78ba51ec90700e", func := "loop.example/g00118/laws.FnNums", spec := "fnNums", apart := false }
def FnNumsSaid : Prop := fnNumsRow.holds Try.pinned (OpenSpec.ofChange fnNumsSpec)

/-- ITS FALSE NEIGHBOUR: 'it returns false'. Refute it at one input. -/
def fnNumsWrong : ChangeSpec := { name := "fnNums", fn := fun _ => fun
  | [d] => { results := [.lit (.bool false)], args := [d] }
  | _ => none }
def FnNumsWrongFalsely : Prop := fnNumsRow.holds Try.pinned (OpenSpec.ofChange fnNumsWrong)

/-- 'laws.FnExactAttrsSame': WHATEVER THE INPUT: true; the input reads as it did. -/
def fnExactAttrsSameSpec : ChangeSpec := { name := "fnExactAttrsSame", fn := fun _ => fun
  | [d1, d2] => { results := [.lit (.bool true)], args := [d1, d2] }
  | _ => none }
def fnExactAttrsSameRow : OpenClaim := { program := "ytdolmkhpbnpjgaa", sum := "bf27ca5402fa91994a6da39d8bbafdb3ae987c342cb026d89a78ba51ec90700e", func := "loop.example/g00118/laws.FnExactAttrsSame", spec := "fnExactAttrsSame", unfollowed := true, recurses := true, apart := false }
def FnExactAttrsSameSaid : Prop := fnExactAttrsSameRow.holds Try.pinned (OpenSpec.ofChange fnExactAttrsSameSpec)

/-- ITS FALSE NEIGHBOUR: 'it returns false'. Refute it at one input. -/
def fnExactAttrsSameWrong : ChangeSpec := { name := "fnExactAttrsSame", fn := fun _ => fun
  | [d1, d2] => { results := [.lit (.bool false)], args := [d1, d2] }
  | _ => none }
def FnExactAttrsSameWrongFalsely : Prop := fnExactAttrsSameRow.holds Try.pinned (OpenSpec.ofChange fnExactAttrsSameWrong)

/-- 'laws.FnExactPointsPut': WHATEVER THE INPUT: true; the input reads as it did. -/
def fnExactPointsPutSpec : ChangeSpec := { name := "fnExactPointsPut", fn := fun _ => fun
  | [d] => { results := [.lit (.bool true)], args := [d] }
  | _ => none }
def fnExactPointsPutRow : OpenClaim := { program := "ytdolmkhpbnpjgaa", sum := "bf27ca5402fa91994a6da39d8bbafdb3ae987c342cb026d89a78ba51ec90700e", func := "loop.example/g00118/laws.FnExactPointsPut", spec := "fnExactPointsPut", recurses := true, apart := false }
def FnExactPointsPutSaid : Prop := fnExactPointsPutRow.holds Try.pinned (OpenSpec.ofChange fnExactPointsPutSpec)

/-- ITS FALSE NEIGHBOUR: 'it returns false'. Refute it at one input. -/
def fnExactPointsPutWrong : ChangeSpec := { name := "fnExactPointsPut", fn := fun _ => fun
  | [d] => { results := [.lit (.bool false)], args := [d] }
  | _ => none }
def FnExactPointsPutWrongFalsely : Prop := fnExactPointsPutRow.holds Try.pinned (OpenSpec.ofChange fnExactPointsPutWrong)

/-- 'laws.FnExactIsBlock': WHATEVER THE INPUT: true; the input reads as it did. -/
def fnExactIsBlockSpec : ChangeSpec := { name := "fnExactIsBlock", fn := fun _ => fun
  | [d] => { results := [.lit (.bool true)], args := [d] }
  | _ => none }
def fnExactIsBlockRow : OpenClaim := { program := "ytdolmkhpbnpjgaa", sum := "bf27ca5402fa91994a6da39d8bbafdb3ae987c342cb026d89a78ba51ec90700e", func := "loop.example/g00118/laws.FnExactIsBlock", spec := "fnExactIsBlock", inPlace := ["internal/bytealg.IndexByteString", "internal/bytealg.IndexString"], named := ["internal/bytealg.MaxLen"], apart := false }
def FnExactIsBlockSaid : Prop := fnExactIsBlockRow.holds Try.pinned (OpenSpec.ofChange fnExactIsBlockSpec)

/-- ITS FALSE NEIGHBOUR: 'it returns false'. Refute it at one input. -/
def fnExactIsBlockWrong : ChangeSpec := { name := "fnExactIsBlock", fn := fun _ => fun
  | [d] => { results := [.lit (.bool false)], args := [d] }
  | _ => none }
def FnExactIsBlockWrongFalsely : Prop := fnExactIsBlockRow.holds Try.pinned (OpenSpec.ofChange fnExactIsBlockWrong)

/-- 'laws.FnExactIsBound': WHATEVER THE INPUT: true; the input reads as it did. -/
def fnExactIsBoundSpec : ChangeSpec := { name := "fnExactIsBound", fn := fun _ => fun
  | [d] => { results := [.lit (.bool true)], args := [d] }
  | _ => none }
def fnExactIsBoundRow : OpenClaim := { program := "ytdolmkhpbnpjgaa", sum := "bf27ca5402fa91994a6da39d8bbafdb3ae987c342cb026d89a78ba51ec90700e", func := "loop.example/g00118/laws.FnExactIsBound", spec := "fnExactIsBound", inPlace := ["internal/bytealg.IndexByteString", "internal/bytealg.IndexString"], named := ["internal/bytealg.MaxLen"], apart := false }
def FnExactIsBoundSaid : Prop := fnExactIsBoundRow.holds Try.pinned (OpenSpec.ofChange fnExactIsBoundSpec)

/-- ITS FALSE NEIGHBOUR: 'it returns false'. Refute it at one input. -/
def fnExactIsBoundWrong : ChangeSpec := { name := "fnExactIsBound", fn := fun _ => fun
  | [d] => { results := [.lit (.bool false)], args := [d] }
  | _ => none }
def FnExactIsBoundWrongFalsely : Prop := fnExactIsBoundRow.holds Try.pinned (OpenSpec.ofChange fnExactIsBoundWrong)

/-- 'laws.FnExactIsFormat': WHATEVER THE INPUT: true; the input reads as it did. -/
def fnExactIsFormatSpec : ChangeSpec := { name := "fnExactIsFormat", fn := fun _ => fun
  | [d] => { results := [.lit (.bool true)], args := [d] }
  | _ => none }
def fnExactIsFormatRow : OpenClaim := { program := "ytdolmkhpbnpjgaa", sum := "bf27ca5402fa91994a6da39d8bbafdb3ae987c342cb026d89a78ba51ec90700e", func := "loop.example/g00118/laws.FnExactIsFormat", spec := "fnExactIsFormat", inPlace := ["internal/bytealg.IndexByteString", "internal/bytealg.IndexString"], named := ["internal/bytealg.MaxLen"], apart := false }
def FnExactIsFormatSaid : Prop := fnExactIsFormatRow.holds Try.pinned (OpenSpec.ofChange fnExactIsFormatSpec)

/-- ITS FALSE NEIGHBOUR: 'it returns false'. Refute it at one input. -/
def fnExactIsFormatWrong : ChangeSpec := { name := "fnExactIsFormat", fn := fun _ => fun
  | [d] => { results := [.lit (.bool false)], args := [d] }
  | _ => none }
def FnExactIsFormatWrongFalsely : Prop := fnExactIsFormatRow.holds Try.pinned (OpenSpec.ofChange fnExactIsFormatWrong)

/-- 'laws.FnExactIsRaw': WHATEVER THE INPUT: true; the input reads as it did. -/
def fnExactIsRawSpec : ChangeSpec := { name := "fnExactIsRaw", fn := fun _ => fun
  | [d] => { results := [.lit (.bool true)], args := [d] }
  | _ => none }
def fnExactIsRawRow : OpenClaim := { program := "ytdolmkhpbnpjgaa", sum := "bf27ca5402fa91994a6da39d8bbafdb3ae987c342cb026d89a78ba51ec90700e", func := "loop.example/g00118/laws.FnExactIsRaw", spec := "fnExactIsRaw", inPlace := ["internal/bytealg.IndexByteString", "internal/bytealg.IndexString"], named := ["internal/bytealg.MaxLen"], apart := false }
def FnExactIsRawSaid : Prop := fnExactIsRawRow.holds Try.pinned (OpenSpec.ofChange fnExactIsRawSpec)

/-- ITS FALSE NEIGHBOUR: 'it returns false'. Refute it at one input. -/
def fnExactIsRawWrong : ChangeSpec := { name := "fnExactIsRaw", fn := fun _ => fun
  | [d] => { results := [.lit (.bool false)], args := [d] }
  | _ => none }
def FnExactIsRawWrongFalsely : Prop := fnExactIsRawRow.holds Try.pinned (OpenSpec.ofChange fnExactIsRawWrong)

/-- 'laws.FnExactIsVoid': WHATEVER THE INPUT: true; the input reads as it did. -/
def fnExactIsVoidSpec : ChangeSpec := { name := "fnExactIsVoid", fn := fun _ => fun
  | [d] => { results := [.lit (.bool true)], args := [d] }
  | _ => none }
def fnExactIsVoidRow : OpenClaim := { program := "ytdolmkhpbnpjgaa", sum := "bf27ca5402fa91994a6da39d8bbafdb3ae987c342cb026d89a78ba51ec90700e", func := "loop.example/g00118/laws.FnExactIsVoid", spec := "fnExactIsVoid", inPlace := ["internal/bytealg.IndexByteString", "internal/bytealg.IndexString"], named := ["internal/bytealg.MaxLen"], apart := false }
def FnExactIsVoidSaid : Prop := fnExactIsVoidRow.holds Try.pinned (OpenSpec.ofChange fnExactIsVoidSpec)

/-- ITS FALSE NEIGHBOUR: 'it returns false'. Refute it at one input. -/
def fnExactIsVoidWrong : ChangeSpec := { name := "fnExactIsVoid", fn := fun _ => fun
  | [d] => { results := [.lit (.bool false)], args := [d] }
  | _ => none }
def FnExactIsVoidWrongFalsely : Prop := fnExactIsVoidRow.holds Try.pinned (OpenSpec.ofChange fnExactIsVoidWrong)

/-- 'laws.FnPoint': WHATEVER THE INPUT: true; the input reads as it did. -/
def fnPointSpec : ChangeSpec := { name := "fnPoint", fn := fun _ => fun
  | [d] => { results := [.lit (.bool true)], args := [d] }
  | _ => none }
def fnPointRow : OpenClaim := { program := "ytdolmkhpbnpjgaa", sum := "bf27ca5402fa91994a6da39d8bbafdb3ae987c342cb026d89a78ba51ec90700e", func := "loop.example/g00118/laws.FnPoint", spec := "fnPoint", recurses := true, apart := false }
def FnPointSaid : Prop := fnPointRow.holds Try.pinned (OpenSpec.ofChange fnPointSpec)

/-- ITS FALSE NEIGHBOUR: 'it returns false'. Refute it at one input. -/
def fnPointWrong : ChangeSpec := { name := "fnPoint", fn := fun _ => fun
  | [d] => { results := [.lit (.bool false)], args := [d] }
  | _ => none }
def FnPointWrongFalsely : Prop := fnPointRow.holds Try.pinned (OpenSpec.ofChange fnPointWrong)

/-- 'laws.FnExactTreeNew': WHATEVER THE INPUT: true; the input reads as it did. -/
def fnExactTreeNewSpec : ChangeSpec := { name := "fnExactTreeNew", fn := fun _ => fun
  | [] => { results := [.lit (.bool true)], args := [] }
  | _ => none }
def fnExactTreeNewRow : OpenClaim := { program := "ytdolmkhpbnpjgaa", sum := "bf27ca5402fa91994a6da39d8bbafdb3ae987c342cb026d89a78ba51ec90700e", func := "loop.example/g00118/laws.FnExactTreeNew", spec := "fnExactTreeNew", apart := false }
def FnExactTreeNewSaid : Prop := fnExactTreeNewRow.holds Try.pinned (OpenSpec.ofChange fnExactTreeNewSpec)

/-- ITS FALSE NEIGHBOUR: 'it returns false'. Refute it at one input. -/
def fnExactTreeNewWrong : ChangeSpec := { name := "fnExactTreeNew", fn := fun _ => fun
  | [] => { results := [.lit (.bool false)], args := [] }
  | _ => none }
def FnExactTreeNewWrongFalsely : Prop := fnExactTreeNewRow.holds Try.pinned (OpenSpec.ofChange fnExactTreeNewWrong)

/-- 'laws.FnExactUtfRead': WHATEVER THE INPUT: true; the input reads as it did. -/
def fnExactUtfReadSpec : ChangeSpec := { name := "fnExactUtfRead", fn := fun _ => fun
  | [d] => { results := [.lit (.bool true)], args := [d] }
  | _ => none }
def fnExactUtfReadRow : OpenClaim := { program := "ytdolmkhpbnpjgaa", sum := "bf27ca5402fa91994a6da39d8bbafdb3ae987c342cb026d89a78ba51ec90700e", func := "loop.example/g00118/laws.FnExactUtfRead", spec := "fnExactUtfRead", apart := false }
def FnExactUtfReadSaid : Prop := fnExactUtfReadRow.holds Try.pinned (OpenSpec.ofChange fnExactUtfReadSpec)

/-- ITS FALSE NEIGHBOUR: 'it returns false'. Refute it at one input. -/
def fnExactUtfReadWrong : ChangeSpec := { name := "fnExactUtfRead", fn := fun _ => fun
  | [d] => { results := [.lit (.bool false)], args := [d] }
  | _ => none }
def FnExactUtfReadWrongFalsely : Prop := fnExactUtfReadRow.holds Try.pinned (OpenSpec.ofChange fnExactUtfReadWrong)

/-- 'laws.FnExactUtfOk': WHATEVER THE INPUT: true; the input reads as it did. -/
def fnExactUtfOkSpec : ChangeSpec := { name := "fnExactUtfOk", fn := fun _ => fun
  | [d] => { results := [.lit (.bool true)], args := [d] }
  | _ => none }
def fnExactUtfOkRow : OpenClaim := { program := "ytdolmkhpbnpjgaa", sum := "bf27ca5402fa91994a6da39d8bbafdb3ae987c342cb026d89a78ba51ec90700e", func := "loop.example/g00118/laws.FnExactUtfOk", spec := "fnExactUtfOk", recurses := true, apart := false }
def FnExactUtfOkSaid : Prop := fnExactUtfOkRow.holds Try.pinned (OpenSpec.ofChange fnExactUtfOkSpec)

/-- ITS FALSE NEIGHBOUR: 'it returns false'. Refute it at one input. -/
def fnExactUtfOkWrong : ChangeSpec := { name := "fnExactUtfOk", fn := fun _ => fun
  | [d] => { results := [.lit (.bool false)], args := [d] }
  | _ => none }
def FnExactUtfOkWrongFalsely : Prop := fnExactUtfOkRow.holds Try.pinned (OpenSpec.ofChange fnExactUtfOkWrong)

/-- 'laws.FnExactNameOk': WHATEVER THE INPUT: true; the input reads as it did. -/
def fnExactNameOkSpec : ChangeSpec := { name := "fnExactNameOk", fn := fun _ => fun
  | [d] => { results := [.lit (.bool true)], args := [d] }
  | _ => none }
def fnExactNameOkRow : OpenClaim := { program := "ytdolmkhpbnpjgaa", sum := "bf27ca5402fa91994a6da39d8bbafdb3ae987c342cb026d89a78ba51ec90700e", func := "loop.example/g00118/laws.FnExactNameOk", spec := "fnExactNameOk", recurses := true, apart := false }
def FnExactNameOkSaid : Prop := fnExactNameOkRow.holds Try.pinned (OpenSpec.ofChange fnExactNameOkSpec)

/-- ITS FALSE NEIGHBOUR: 'it returns false'. Refute it at one input. -/
def fnExactNameOkWrong : ChangeSpec := { name := "fnExactNameOk", fn := fun _ => fun
  | [d] => { results := [.lit (.bool false)], args := [d] }
  | _ => none }
def FnExactNameOkWrongFalsely : Prop := fnExactNameOkRow.holds Try.pinned (OpenSpec.ofChange fnExactNameOkWrong)

/-- 'laws.FnExactRefRead': WHATEVER THE INPUT: true; the input reads as it did. -/
def fnExactRefReadSpec : ChangeSpec := { name := "fnExactRefRead", fn := fun _ => fun
  | [d1, d2, d3] => { results := [.lit (.bool true)], args := [d1, d2, d3] }
  | _ => none }
def fnExactRefReadRow : OpenClaim := { program := "ytdolmkhpbnpjgaa", sum := "bf27ca5402fa91994a6da39d8bbafdb3ae987c342cb026d89a78ba51ec90700e", func := "loop.example/g00118/laws.FnExactRefRead", spec := "fnExactRefRead", apart := false }
def FnExactRefReadSaid : Prop := fnExactRefReadRow.holds Try.pinned (OpenSpec.ofChange fnExactRefReadSpec)

/-- ITS FALSE NEIGHBOUR: 'it returns false'. Refute it at one input. -/
def fnExactRefReadWrong : ChangeSpec := { name := "fnExactRefRead", fn := fun _ => fun
  | [d1, d2, d3] => { results := [.lit (.bool false)], args := [d1, d2, d3] }
  | _ => none }
def FnExactRefReadWrongFalsely : Prop := fnExactRefReadRow.holds Try.pinned (OpenSpec.ofChange fnExactRefReadWrong)

/-- 'laws.FnUtf': WHATEVER THE INPUT: true; the input reads as it did. -/
def fnUtfSpec : ChangeSpec := { name := "fnUtf", fn := fun _ => fun
  | [d] => { results := [.lit (.bool true)], args := [d] }
  | _ => none }
def fnUtfRow : OpenClaim := { program := "ytdolmkhpbnpjgaa", sum := "bf27ca5402fa91994a6da39d8bbafdb3ae987c342cb026d89a78ba51ec90700e", func := "loop.example/g00118/laws.FnUtf", spec := "fnUtf", recurses := true, apart := false }
def FnUtfSaid : Prop := fnUtfRow.holds Try.pinned (OpenSpec.ofChange fnUtfSpec)

/-- ITS FALSE NEIGHBOUR: 'it returns false'. Refute it at one input. -/
def fnUtfWrong : ChangeSpec := { name := "fnUtf", fn := fun _ => fun
  | [d] => { results := [.lit (.bool false)], args := [d] }
  | _ => none }
def FnUtfWrongFalsely : Prop := fnUtfRow.holds Try.pinned (OpenSpec.ofChange fnUtfWrong)

/-- 'laws.FnExactAttrsOk': WHATEVER THE INPUT: true; the input reads as it did. -/
def fnExactAttrsOkSpec : ChangeSpec := { name := "fnExactAttrsOk", fn := fun _ => fun
  | [d] => { results := [.lit (.bool true)], args := [d] }
  | _ => none }
def fnExactAttrsOkRow : OpenClaim := { program := "ytdolmkhpbnpjgaa", sum := "bf27ca5402fa91994a6da39d8bbafdb3ae987c342cb026d89a78ba51ec90700e", func := "loop.example/g00118/laws.FnExactAttrsOk", spec := "fnExactAttrsOk", unfollowed := true, recurses := true, apart := false }
def FnExactAttrsOkSaid : Prop := fnExactAttrsOkRow.holds Try.pinned (OpenSpec.ofChange fnExactAttrsOkSpec)

/-- ITS FALSE NEIGHBOUR: 'it returns false'. Refute it at one input. -/
def fnExactAttrsOkWrong : ChangeSpec := { name := "fnExactAttrsOk", fn := fun _ => fun
  | [d] => { results := [.lit (.bool false)], args := [d] }
  | _ => none }
def FnExactAttrsOkWrongFalsely : Prop := fnExactAttrsOkRow.holds Try.pinned (OpenSpec.ofChange fnExactAttrsOkWrong)

/-- 'laws.FnLower': WHATEVER THE INPUT: true; the input reads as it did. -/
def fnLowerSpec : ChangeSpec := { name := "fnLower", fn := fun _ => fun
  | [d] => { results := [.lit (.bool true)], args := [d] }
  | _ => none }
def fnLowerRow : OpenClaim := { program := "ytdolmkhpbnpjgaa", sum := "bf27ca5402fa91994a6da39d8bbafdb3ae987c342cb026d89a78ba51ec90700e", func := "loop.example/g00118/laws.FnLower", spec := "fnLower", recurses := true, apart := false }
def FnLowerSaid : Prop := fnLowerRow.holds Try.pinned (OpenSpec.ofChange fnLowerSpec)

/-- ITS FALSE NEIGHBOUR: 'it returns false'. Refute it at one input. -/
def fnLowerWrong : ChangeSpec := { name := "fnLower", fn := fun _ => fun
  | [d] => { results := [.lit (.bool false)], args := [d] }
  | _ => none }
def FnLowerWrongFalsely : Prop := fnLowerRow.holds Try.pinned (OpenSpec.ofChange fnLowerWrong)

/-- 'laws.FnExactAttrAdd': WHATEVER THE INPUT: true; the input reads as it did. -/
def fnExactAttrAddSpec : ChangeSpec := { name := "fnExactAttrAdd", fn := fun _ => fun
  | [d1, d2] => { results := [.lit (.bool true)], args := [d1, d2] }
  | _ => none }
def fnExactAttrAddRow : OpenClaim := { program := "ytdolmkhpbnpjgaa", sum := "bf27ca5402fa91994a6da39d8bbafdb3ae987c342cb026d89a78ba51ec90700e", func := "loop.example/g00118/laws.FnExactAttrAdd", spec := "fnExactAttrAdd", unfollowed := true, recurses := true, apart := false }
def FnExactAttrAddSaid : Prop := fnExactAttrAddRow.holds Try.pinned (OpenSpec.ofChange fnExactAttrAddSpec)

/-- ITS FALSE NEIGHBOUR: 'it returns false'. Refute it at one input. -/
def fnExactAttrAddWrong : ChangeSpec := { name := "fnExactAttrAdd", fn := fun _ => fun
  | [d1, d2] => { results := [.lit (.bool false)], args := [d1, d2] }
  | _ => none }
def FnExactAttrAddWrongFalsely : Prop := fnExactAttrAddRow.holds Try.pinned (OpenSpec.ofChange fnExactAttrAddWrong)

/-- 'laws.FnRef': WHATEVER THE INPUT: true; the input reads as it did. -/
def fnRefSpec : ChangeSpec := { name := "fnRef", fn := fun _ => fun
  | [d] => { results := [.lit (.bool true)], args := [d] }
  | _ => none }
def fnRefRow : OpenClaim := { program := "ytdolmkhpbnpjgaa", sum := "bf27ca5402fa91994a6da39d8bbafdb3ae987c342cb026d89a78ba51ec90700e", func := "loop.example/g00118/laws.FnRef", spec := "fnRef", apart := false }
def FnRefSaid : Prop := fnRefRow.holds Try.pinned (OpenSpec.ofChange fnRefSpec)

/-- ITS FALSE NEIGHBOUR: 'it returns false'. Refute it at one input. -/
def fnRefWrong : ChangeSpec := { name := "fnRef", fn := fun _ => fun
  | [d] => { results := [.lit (.bool false)], args := [d] }
  | _ => none }
def FnRefWrongFalsely : Prop := fnRefRow.holds Try.pinned (OpenSpec.ofChange fnRefWrong)

/-- 'laws.FnAttrs': WHATEVER THE INPUT: true; the input reads as it did. -/
def fnAttrsSpec : ChangeSpec := { name := "fnAttrs", fn := fun _ => fun
  | [d] => { results := [.lit (.bool true)], args := [d] }
  | _ => none }
def fnAttrsRow : OpenClaim := { program := "ytdolmkhpbnpjgaa", sum := "bf27ca5402fa91994a6da39d8bbafdb3ae987c342cb026d89a78ba51ec90700e", func := "loop.example/g00118/laws.FnAttrs", spec := "fnAttrs", unfollowed := true, recurses := true, apart := false }
def FnAttrsSaid : Prop := fnAttrsRow.holds Try.pinned (OpenSpec.ofChange fnAttrsSpec)

/-- ITS FALSE NEIGHBOUR: 'it returns false'. Refute it at one input. -/
def fnAttrsWrong : ChangeSpec := { name := "fnAttrs", fn := fun _ => fun
  | [d] => { results := [.lit (.bool false)], args := [d] }
  | _ => none }
def FnAttrsWrongFalsely : Prop := fnAttrsRow.holds Try.pinned (OpenSpec.ofChange fnAttrsWrong)

/-- 'laws.FnAlike': WHATEVER THE INPUT: true; the input reads as it did. -/
def fnAlikeSpec : ChangeSpec := { name := "fnAlike", fn := fun _ => fun
  | [d] => { results := [.lit (.bool true)], args := [d] }
  | _ => none }
def fnAlikeRow : OpenClaim := { program := "ytdolmkhpbnpjgaa", sum := "bf27ca5402fa91994a6da39d8bbafdb3ae987c342cb026d89a78ba51ec90700e", func := "loop.example/g00118/laws.FnAlike", spec := "fnAlike", unfollowed := true, recurses := true, apart := false }
def FnAlikeSaid : Prop := fnAlikeRow.holds Try.pinned (OpenSpec.ofChange fnAlikeSpec)

/-- ITS FALSE NEIGHBOUR: 'it returns false'. Refute it at one input. -/
def fnAlikeWrong : ChangeSpec := { name := "fnAlike", fn := fun _ => fun
  | [d] => { results := [.lit (.bool false)], args := [d] }
  | _ => none }
def FnAlikeWrongFalsely : Prop := fnAlikeRow.holds Try.pinned (OpenSpec.ofChange fnAlikeWrong)

/-- 'laws.FnExactTokenOk': WHATEVER THE INPUT: true; the input reads as it did. -/
def fnExactTokenOkSpec : ChangeSpec := { name := "fnExactTokenOk", fn := fun _ => fun
  | [d] => { results := [.lit (.bool true)], args := [d] }
  | _ => none }
def fnExactTokenOkRow : OpenClaim := { program := "ytdolmkhpbnpjgaa", sum := "bf27ca5402fa91994a6da39d8bbafdb3ae987c342cb026d89a78ba51ec90700e", func := "loop.example/g00118/laws.FnExactTokenOk", spec := "fnExactTokenOk", unfollowed := true, recurses := true, apart := false }
def FnExactTokenOkSaid : Prop := fnExactTokenOkRow.holds Try.pinned (OpenSpec.ofChange fnExactTokenOkSpec)

/-- ITS FALSE NEIGHBOUR: 'it returns false'. Refute it at one input. -/
def fnExactTokenOkWrong : ChangeSpec := { name := "fnExactTokenOk", fn := fun _ => fun
  | [d] => { results := [.lit (.bool false)], args := [d] }
  | _ => none }
def FnExactTokenOkWrongFalsely : Prop := fnExactTokenOkRow.holds Try.pinned (OpenSpec.ofChange fnExactTokenOkWrong)

/-- 'laws.FnExactTreeOk': WHATEVER THE INPUT: true; the input reads as it did. -/
def fnExactTreeOkSpec : ChangeSpec := { name := "fnExactTreeOk", fn := fun _ => fun
  | [d] => { results := [.lit (.bool true)], args := [d] }
  | _ => none }
def fnExactTreeOkRow : OpenClaim := { program := "ytdolmkhpbnpjgaa", sum := "bf27ca5402fa91994a6da39d8bbafdb3ae987c342cb026d89a78ba51ec90700e", func := "loop.example/g00118/laws.FnExactTreeOk", spec := "fnExactTreeOk", unfollowed := true, recurses := true, apart := false }
def FnExactTreeOkSaid : Prop := fnExactTreeOkRow.holds Try.pinned (OpenSpec.ofChange fnExactTreeOkSpec)

/-- ITS FALSE NEIGHBOUR: 'it returns false'. Refute it at one input. -/
def fnExactTreeOkWrong : ChangeSpec := { name := "fnExactTreeOk", fn := fun _ => fun
  | [d] => { results := [.lit (.bool false)], args := [d] }
  | _ => none }
def FnExactTreeOkWrongFalsely : Prop := fnExactTreeOkRow.holds Try.pinned (OpenSpec.ofChange fnExactTreeOkWrong)

/-- 'laws.FnTexts': WHATEVER THE INPUT: true; the input reads as it did. -/
def fnTextsSpec : ChangeSpec := { name := "fnTexts", fn := fun _ => fun
  | [d] => { results := [.lit (.bool true)], args := [d] }
  | _ => none }
def fnTextsRow : OpenClaim := { program := "ytdolmkhpbnpjgaa", sum := "bf27ca5402fa91994a6da39d8bbafdb3ae987c342cb026d89a78ba51ec90700e", func := "loop.example/g00118/laws.FnTexts", spec := "fnTexts", inPlace := ["internal/abi.NoEscape"], unfollowed := true, recurses := true, apart := false }
def FnTextsSaid : Prop := fnTextsRow.holds Try.pinned (OpenSpec.ofChange fnTextsSpec)

/-- ITS FALSE NEIGHBOUR: 'it returns false'. Refute it at one input. -/
def fnTextsWrong : ChangeSpec := { name := "fnTexts", fn := fun _ => fun
  | [d] => { results := [.lit (.bool false)], args := [d] }
  | _ => none }
def FnTextsWrongFalsely : Prop := fnTextsRow.holds Try.pinned (OpenSpec.ofChange fnTextsWrong)

/-- 'laws.FnExactTextOf': WHATEVER THE INPUT: true; the input reads as it did. -/
def fnExactTextOfSpec : ChangeSpec := { name := "fnExactTextOf", fn := fun _ => fun
  | [d1, d2] => { results := [.lit (.bool true)], args := [d1, d2] }
  | _ => none }
def fnExactTextOfRow : OpenClaim := { program := "ytdolmkhpbnpjgaa", sum := "bf27ca5402fa91994a6da39d8bbafdb3ae987c342cb026d89a78ba51ec90700e", func := "loop.example/g00118/laws.FnExactTextOf", spec := "fnExactTextOf", inPlace := ["internal/abi.NoEscape"], unfollowed := true, recurses := true, apart := false }
def FnExactTextOfSaid : Prop := fnExactTextOfRow.holds Try.pinned (OpenSpec.ofChange fnExactTextOfSpec)

/-- ITS FALSE NEIGHBOUR: 'it returns false'. Refute it at one input. -/
def fnExactTextOfWrong : ChangeSpec := { name := "fnExactTextOf", fn := fun _ => fun
  | [d1, d2] => { results := [.lit (.bool false)], args := [d1, d2] }
  | _ => none }
def FnExactTextOfWrongFalsely : Prop := fnExactTextOfRow.holds Try.pinned (OpenSpec.ofChange fnExactTextOfWrong)

/-- 'laws.FnExactTreeSame': WHATEVER THE INPUT: true; the input reads as it did. -/
def fnExactTreeSameSpec : ChangeSpec := { name := "fnExactTreeSame", fn := fun _ => fun
  | [d1, d2] => { results := [.lit (.bool true)], args := [d1, d2] }
  | _ => none }
def fnExactTreeSameRow : OpenClaim := { program := "ytdolmkhpbnpjgaa", sum := "bf27ca5402fa91994a6da39d8bbafdb3ae987c342cb026d89a78ba51ec90700e", func := "loop.example/g00118/laws.FnExactTreeSame", spec := "fnExactTreeSame", unfollowed := true, recurses := true, apart := false }
def FnExactTreeSameSaid : Prop := fnExactTreeSameRow.holds Try.pinned (OpenSpec.ofChange fnExactTreeSameSpec)

/-- ITS FALSE NEIGHBOUR: 'it returns false'. Refute it at one input. -/
def fnExactTreeSameWrong : ChangeSpec := { name := "fnExactTreeSame", fn := fun _ => fun
  | [d1, d2] => { results := [.lit (.bool false)], args := [d1, d2] }
  | _ => none }
def FnExactTreeSameWrongFalsely : Prop := fnExactTreeSameRow.holds Try.pinned (OpenSpec.ofChange fnExactTreeSameWrong)

/-- 'laws.FnExactTreeAdd': WHATEVER THE INPUT: true; the input reads as it did. -/
def fnExactTreeAddSpec : ChangeSpec := { name := "fnExactTreeAdd", fn := fun _ => fun
  | [d1, d2] => { results := [.lit (.bool true)], args := [d1, d2] }
  | _ => none }
def fnExactTreeAddRow : OpenClaim := { program := "ytdolmkhpbnpjgaa", sum := "bf27ca5402fa91994a6da39d8bbafdb3ae987c342cb026d89a78ba51ec90700e", func := "loop.example/g00118/laws.FnExactTreeAdd", spec := "fnExactTreeAdd", unfollowed := true, recurses := true, apart := false }
def FnExactTreeAddSaid : Prop := fnExactTreeAddRow.holds Try.pinned (OpenSpec.ofChange fnExactTreeAddSpec)

/-- ITS FALSE NEIGHBOUR: 'it returns false'. Refute it at one input. -/
def fnExactTreeAddWrong : ChangeSpec := { name := "fnExactTreeAdd", fn := fun _ => fun
  | [d1, d2] => { results := [.lit (.bool false)], args := [d1, d2] }
  | _ => none }
def FnExactTreeAddWrongFalsely : Prop := fnExactTreeAddRow.holds Try.pinned (OpenSpec.ofChange fnExactTreeAddWrong)

/-- 'laws.FnExactTreeTidy': WHATEVER THE INPUT: true; the input reads as it did. -/
def fnExactTreeTidySpec : ChangeSpec := { name := "fnExactTreeTidy", fn := fun _ => fun
  | [d] => { results := [.lit (.bool true)], args := [d] }
  | _ => none }
def fnExactTreeTidyRow : OpenClaim := { program := "ytdolmkhpbnpjgaa", sum := "bf27ca5402fa91994a6da39d8bbafdb3ae987c342cb026d89a78ba51ec90700e", func := "loop.example/g00118/laws.FnExactTreeTidy", spec := "fnExactTreeTidy", unfollowed := true, recurses := true, apart := false }
def FnExactTreeTidySaid : Prop := fnExactTreeTidyRow.holds Try.pinned (OpenSpec.ofChange fnExactTreeTidySpec)

/-- ITS FALSE NEIGHBOUR: 'it returns false'. Refute it at one input. -/
def fnExactTreeTidyWrong : ChangeSpec := { name := "fnExactTreeTidy", fn := fun _ => fun
  | [d] => { results := [.lit (.bool false)], args := [d] }
  | _ => none }
def FnExactTreeTidyWrongFalsely : Prop := fnExactTreeTidyRow.holds Try.pinned (OpenSpec.ofChange fnExactTreeTidyWrong)

/- THE SECOND FORM. 'bulk': how many values and letters a reading holds, each counted each time it is reached (what is shared counts as often as it is met; a slice's spare places count too). A statement '..UptoSaid' is the law's where the arguments, and the package variables that the reading takes, are together of bulk at most 1048576: NARROWER than '..Said'. Prove '..Said' where nothing that the law and all that it calls make is longer than what came in: it says more and counts as full. Else prove '..UptoSaid'. A law counts once. -/
mutual
def uptoBulk {H : Type} : DataW H → Nat
  | .lit (.string bytes) => bytes.length + 1
  | .lit _ => 1
  | .nil => 1
  | .ptr d => uptoBulk d + 1
  | .slice elems spare => uptoBulkAll elems + uptoBulkAll spare + 1
  | .agg parts => uptoBulkAll parts + 1
  | .iface _ d => uptoBulk d + 1
  | .map entries => uptoBulkEntries entries + 1
  | .held _ => 1
def uptoBulkAll {H : Type} : List (DataW H) → Nat
  | [] => 0
  | d :: r => uptoBulk d + uptoBulkAll r
def uptoBulkEntries {H : Type} : List (Lit × DataW H) → Nat
  | [] => 0
  | x :: r => uptoBulkEntry x + uptoBulkEntries r
def uptoBulkEntry {H : Type} : Lit × DataW H → Nat
  | (.string bytes, d) => bytes.length + uptoBulk d + 1
  | (_, d) => uptoBulk d + 1
 end
def uptoSmall : (H : Type) → List (DataW H) → Bool := fun _ ds => decide (uptoBulkAll ds ≤ 1048576)
def OpenSpec.upto (s : _root_.Go.ChangeSpec) : _root_.Go.OpenSpec := { _root_.Go.OpenSpec.ofChange s with cond := some uptoSmall }

/-- 'laws.FnExactTreePack', WHERE WHAT IT READS IS OF BULK AT MOST 1048576: true; the input reads as it did. -/
def fnExactTreePackUptoRow : OpenClaim := { program := "ytdolmkhpbnpjgaa", sum := "bf27ca5402fa91994a6da39d8bbafdb3ae987c342cb026d89a78ba51ec90700e", func := "loop.example/g00118/laws.FnExactTreePack", spec := "fnExactTreePack", unfollowed := true, recurses := true, apart := false, narrowed := true }
def FnExactTreePackUptoSaid : Prop := fnExactTreePackUptoRow.holds Try.pinned (OpenSpec.upto fnExactTreePackSpec)

/-- 'laws.FnExactPointPut', WHERE WHAT IT READS IS OF BULK AT MOST 1048576: true; the input reads as it did. -/
def fnExactPointPutUptoRow : OpenClaim := { program := "ytdolmkhpbnpjgaa", sum := "bf27ca5402fa91994a6da39d8bbafdb3ae987c342cb026d89a78ba51ec90700e", func := "loop.example/g00118/laws.FnExactPointPut", spec := "fnExactPointPut", recurses := true, apart := false, narrowed := true }
def FnExactPointPutUptoSaid : Prop := fnExactPointPutUptoRow.holds Try.pinned (OpenSpec.upto fnExactPointPutSpec)

/-- 'laws.FnRefNumber', WHERE WHAT IT READS IS OF BULK AT MOST 1048576: true; the input reads as it did. -/
def fnRefNumberUptoRow : OpenClaim := { program := "ytdolmkhpbnpjgaa", sum := "bf27ca5402fa91994a6da39d8bbafdb3ae987c342cb026d89a78ba51ec90700e", func := "loop.example/g00118/laws.FnRefNumber", spec := "fnRefNumber", apart := false, narrowed := true }
def FnRefNumberUptoSaid : Prop := fnRefNumberUptoRow.holds Try.pinned (OpenSpec.upto fnRefNumberSpec)

/-- 'laws.FnExactGetText', WHERE WHAT IT READS IS OF BULK AT MOST 1048576: true; the input reads as it did. -/
def fnExactGetTextUptoRow : OpenClaim := { program := "ytdolmkhpbnpjgaa", sum := "bf27ca5402fa91994a6da39d8bbafdb3ae987c342cb026d89a78ba51ec90700e", func := "loop.example/g00118/laws.FnExactGetText", spec := "fnExactGetText", apart := false, narrowed := true }
def FnExactGetTextUptoSaid : Prop := fnExactGetTextUptoRow.holds Try.pinned (OpenSpec.upto fnExactGetTextSpec)

/-- 'laws.FnExactLinesOf', WHERE WHAT IT READS IS OF BULK AT MOST 1048576: true; the input reads as it did. -/
def fnExactLinesOfUptoRow : OpenClaim := { program := "ytdolmkhpbnpjgaa", sum := "bf27ca5402fa91994a6da39d8bbafdb3ae987c342cb026d89a78ba51ec90700e", func := "loop.example/g00118/laws.FnExactLinesOf", spec := "fnExactLinesOf", apart := false, narrowed := true }
def FnExactLinesOfUptoSaid : Prop := fnExactLinesOfUptoRow.holds Try.pinned (OpenSpec.upto fnExactLinesOfSpec)

/-- 'laws.FnExactAttrOf', WHERE WHAT IT READS IS OF BULK AT MOST 1048576: true; the input reads as it did. -/
def fnExactAttrOfUptoRow : OpenClaim := { program := "ytdolmkhpbnpjgaa", sum := "bf27ca5402fa91994a6da39d8bbafdb3ae987c342cb026d89a78ba51ec90700e", func := "loop.example/g00118/laws.FnExactAttrOf", spec := "fnExactAttrOf", unfollowed := true, recurses := true, apart := false, narrowed := true }
def FnExactAttrOfUptoSaid : Prop := fnExactAttrOfUptoRow.holds Try.pinned (OpenSpec.upto fnExactAttrOfSpec)

/-- 'laws.FnLines', WHERE WHAT IT READS IS OF BULK AT MOST 1048576: true; the input reads as it did. -/
def fnLinesUptoRow : OpenClaim := { program := "ytdolmkhpbnpjgaa", sum := "bf27ca5402fa91994a6da39d8bbafdb3ae987c342cb026d89a78ba51ec90700e", func := "loop.example/g00118/laws.FnLines", spec := "fnLines", apart := false, narrowed := true }
def FnLinesUptoSaid : Prop := fnLinesUptoRow.holds Try.pinned (OpenSpec.upto fnLinesSpec)

/-- 'laws.FnNums', WHERE WHAT IT READS IS OF BULK AT MOST 1048576: true; the input reads as it did. -/
def fnNumsUptoRow : OpenClaim := { program := "ytdolmkhpbnpjgaa", sum := "bf27ca5402fa91994a6da39d8bbafdb3ae987c342cb026d89a78ba51ec90700e", func := "loop.example/g00118/laws.FnNums", spec := "fnNums", apart := false, narrowed := true }
def FnNumsUptoSaid : Prop := fnNumsUptoRow.holds Try.pinned (OpenSpec.upto fnNumsSpec)

/-- 'laws.FnExactAttrsSame', WHERE WHAT IT READS IS OF BULK AT MOST 1048576: true; the input reads as it did. -/
def fnExactAttrsSameUptoRow : OpenClaim := { program := "ytdolmkhpbnpjgaa", sum := "bf27ca5402fa91994a6da39d8bbafdb3ae987c342cb026d89a78ba51ec90700e", func := "loop.example/g00118/laws.FnExactAttrsSame", spec := "fnExactAttrsSame", unfollowed := true, recurses := true, apart := false, narrowed := true }
def FnExactAttrsSameUptoSaid : Prop := fnExactAttrsSameUptoRow.holds Try.pinned (OpenSpec.upto fnExactAttrsSameSpec)

/-- 'laws.FnExactPointsPut', WHERE WHAT IT READS IS OF BULK AT MOST 1048576: true; the input reads as it did. -/
def fnExactPointsPutUptoRow : OpenClaim := { program := "ytdolmkhpbnpjgaa", sum := "bf27ca5402fa91994a6da39d8bbafdb3ae987c342cb026d89a78ba51ec90700e", func := "loop.example/g00118/laws.FnExactPointsPut", spec := "fnExactPointsPut", recurses := true, apart := false, narrowed := true }
def FnExactPointsPutUptoSaid : Prop := fnExactPointsPutUptoRow.holds Try.pinned (OpenSpec.upto fnExactPointsPutSpec)

/-- 'laws.FnExactIsBlock', WHERE WHAT IT READS IS OF BULK AT MOST 1048576: true; the input reads as it did. -/
def fnExactIsBlockUptoRow : OpenClaim := { program := "ytdolmkhpbnpjgaa", sum := "bf27ca5402fa91994a6da39d8bbafdb3ae987c342cb026d89a78ba51ec90700e", func := "loop.example/g00118/laws.FnExactIsBlock", spec := "fnExactIsBlock", inPlace := ["internal/bytealg.IndexByteString", "internal/bytealg.IndexString"], named := ["internal/bytealg.MaxLen"], apart := false, narrowed := true }
def FnExactIsBlockUptoSaid : Prop := fnExactIsBlockUptoRow.holds Try.pinned (OpenSpec.upto fnExactIsBlockSpec)

/-- 'laws.FnExactIsBound', WHERE WHAT IT READS IS OF BULK AT MOST 1048576: true; the input reads as it did. -/
def fnExactIsBoundUptoRow : OpenClaim := { program := "ytdolmkhpbnpjgaa", sum := "bf27ca5402fa91994a6da39d8bbafdb3ae987c342cb026d89a78ba51ec90700e", func := "loop.example/g00118/laws.FnExactIsBound", spec := "fnExactIsBound", inPlace := ["internal/bytealg.IndexByteString", "internal/bytealg.IndexString"], named := ["internal/bytealg.MaxLen"], apart := false, narrowed := true }
def FnExactIsBoundUptoSaid : Prop := fnExactIsBoundUptoRow.holds Try.pinned (OpenSpec.upto fnExactIsBoundSpec)

/-- 'laws.FnExactIsFormat', WHERE WHAT IT READS IS OF BULK AT MOST 1048576: true; the input reads as it did. -/
def fnExactIsFormatUptoRow : OpenClaim := { program := "ytdolmkhpbnpjgaa", sum := "bf27ca5402fa91994a6da39d8bbafdb3ae987c342cb026d89a78ba51ec90700e", func := "loop.example/g00118/laws.FnExactIsFormat", spec := "fnExactIsFormat", inPlace := ["internal/bytealg.IndexByteString", "internal/bytealg.IndexString"], named := ["internal/bytealg.MaxLen"], apart := false, narrowed := true }
def FnExactIsFormatUptoSaid : Prop := fnExactIsFormatUptoRow.holds Try.pinned (OpenSpec.upto fnExactIsFormatSpec)

/-- 'laws.FnExactIsRaw', WHERE WHAT IT READS IS OF BULK AT MOST 1048576: true; the input reads as it did. -/
def fnExactIsRawUptoRow : OpenClaim := { program := "ytdolmkhpbnpjgaa", sum := "bf27ca5402fa91994a6da39d8bbafdb3ae987c342cb026d89a78ba51ec90700e", func := "loop.example/g00118/laws.FnExactIsRaw", spec := "fnExactIsRaw", inPlace := ["internal/bytealg.IndexByteString", "internal/bytealg.IndexString"], named := ["internal/bytealg.MaxLen"], apart := false, narrowed := true }
def FnExactIsRawUptoSaid : Prop := fnExactIsRawUptoRow.holds Try.pinned (OpenSpec.upto fnExactIsRawSpec)

/-- 'laws.FnExactIsVoid', WHERE WHAT IT READS IS OF BULK AT MOST 1048576: true; the input reads as it did. -/
def fnExactIsVoidUptoRow : OpenClaim := { program := "ytdolmkhpbnpjgaa", sum := "bf27ca5402fa91994a6da39d8bbafdb3ae987c342cb026d89a78ba51ec90700e", func := "loop.example/g00118/laws.FnExactIsVoid", spec := "fnExactIsVoid", inPlace := ["internal/bytealg.IndexByteString", "internal/bytealg.IndexString"], named := ["internal/bytealg.MaxLen"], apart := false, narrowed := true }
def FnExactIsVoidUptoSaid : Prop := fnExactIsVoidUptoRow.holds Try.pinned (OpenSpec.upto fnExactIsVoidSpec)

/-- 'laws.FnPoint', WHERE WHAT IT READS IS OF BULK AT MOST 1048576: true; the input reads as it did. -/
def fnPointUptoRow : OpenClaim := { program := "ytdolmkhpbnpjgaa", sum := "bf27ca5402fa91994a6da39d8bbafdb3ae987c342cb026d89a78ba51ec90700e", func := "loop.example/g00118/laws.FnPoint", spec := "fnPoint", recurses := true, apart := false, narrowed := true }
def FnPointUptoSaid : Prop := fnPointUptoRow.holds Try.pinned (OpenSpec.upto fnPointSpec)

/-- 'laws.FnExactTreeNew', WHERE WHAT IT READS IS OF BULK AT MOST 1048576: true; the input reads as it did. -/
def fnExactTreeNewUptoRow : OpenClaim := { program := "ytdolmkhpbnpjgaa", sum := "bf27ca5402fa91994a6da39d8bbafdb3ae987c342cb026d89a78ba51ec90700e", func := "loop.example/g00118/laws.FnExactTreeNew", spec := "fnExactTreeNew", apart := false, narrowed := true }
def FnExactTreeNewUptoSaid : Prop := fnExactTreeNewUptoRow.holds Try.pinned (OpenSpec.upto fnExactTreeNewSpec)

/-- 'laws.FnExactUtfRead', WHERE WHAT IT READS IS OF BULK AT MOST 1048576: true; the input reads as it did. -/
def fnExactUtfReadUptoRow : OpenClaim := { program := "ytdolmkhpbnpjgaa", sum := "bf27ca5402fa91994a6da39d8bbafdb3ae987c342cb026d89a78ba51ec90700e", func := "loop.example/g00118/laws.FnExactUtfRead", spec := "fnExactUtfRead", apart := false, narrowed := true }
def FnExactUtfReadUptoSaid : Prop := fnExactUtfReadUptoRow.holds Try.pinned (OpenSpec.upto fnExactUtfReadSpec)

/-- 'laws.FnExactUtfOk', WHERE WHAT IT READS IS OF BULK AT MOST 1048576: true; the input reads as it did. -/
def fnExactUtfOkUptoRow : OpenClaim := { program := "ytdolmkhpbnpjgaa", sum := "bf27ca5402fa91994a6da39d8bbafdb3ae987c342cb026d89a78ba51ec90700e", func := "loop.example/g00118/laws.FnExactUtfOk", spec := "fnExactUtfOk", recurses := true, apart := false, narrowed := true }
def FnExactUtfOkUptoSaid : Prop := fnExactUtfOkUptoRow.holds Try.pinned (OpenSpec.upto fnExactUtfOkSpec)

/-- 'laws.FnExactNameOk', WHERE WHAT IT READS IS OF BULK AT MOST 1048576: true; the input reads as it did. -/
def fnExactNameOkUptoRow : OpenClaim := { program := "ytdolmkhpbnpjgaa", sum := "bf27ca5402fa91994a6da39d8bbafdb3ae987c342cb026d89a78ba51ec90700e", func := "loop.example/g00118/laws.FnExactNameOk", spec := "fnExactNameOk", recurses := true, apart := false, narrowed := true }
def FnExactNameOkUptoSaid : Prop := fnExactNameOkUptoRow.holds Try.pinned (OpenSpec.upto fnExactNameOkSpec)

/-- 'laws.FnExactRefRead', WHERE WHAT IT READS IS OF BULK AT MOST 1048576: true; the input reads as it did. -/
def fnExactRefReadUptoRow : OpenClaim := { program := "ytdolmkhpbnpjgaa", sum := "bf27ca5402fa91994a6da39d8bbafdb3ae987c342cb026d89a78ba51ec90700e", func := "loop.example/g00118/laws.FnExactRefRead", spec := "fnExactRefRead", apart := false, narrowed := true }
def FnExactRefReadUptoSaid : Prop := fnExactRefReadUptoRow.holds Try.pinned (OpenSpec.upto fnExactRefReadSpec)

/-- 'laws.FnUtf', WHERE WHAT IT READS IS OF BULK AT MOST 1048576: true; the input reads as it did. -/
def fnUtfUptoRow : OpenClaim := { program := "ytdolmkhpbnpjgaa", sum := "bf27ca5402fa91994a6da39d8bbafdb3ae987c342cb026d89a78ba51ec90700e", func := "loop.example/g00118/laws.FnUtf", spec := "fnUtf", recurses := true, apart := false, narrowed := true }
def FnUtfUptoSaid : Prop := fnUtfUptoRow.holds Try.pinned (OpenSpec.upto fnUtfSpec)

/-- 'laws.FnExactAttrsOk', WHERE WHAT IT READS IS OF BULK AT MOST 1048576: true; the input reads as it did. -/
def fnExactAttrsOkUptoRow : OpenClaim := { program := "ytdolmkhpbnpjgaa", sum := "bf27ca5402fa91994a6da39d8bbafdb3ae987c342cb026d89a78ba51ec90700e", func := "loop.example/g00118/laws.FnExactAttrsOk", spec := "fnExactAttrsOk", unfollowed := true, recurses := true, apart := false, narrowed := true }
def FnExactAttrsOkUptoSaid : Prop := fnExactAttrsOkUptoRow.holds Try.pinned (OpenSpec.upto fnExactAttrsOkSpec)

/-- 'laws.FnLower', WHERE WHAT IT READS IS OF BULK AT MOST 1048576: true; the input reads as it did. -/
def fnLowerUptoRow : OpenClaim := { program := "ytdolmkhpbnpjgaa", sum := "bf27ca5402fa91994a6da39d8bbafdb3ae987c342cb026d89a78ba51ec90700e", func := "loop.example/g00118/laws.FnLower", spec := "fnLower", recurses := true, apart := false, narrowed := true }
def FnLowerUptoSaid : Prop := fnLowerUptoRow.holds Try.pinned (OpenSpec.upto fnLowerSpec)

/-- 'laws.FnExactAttrAdd', WHERE WHAT IT READS IS OF BULK AT MOST 1048576: true; the input reads as it did. -/
def fnExactAttrAddUptoRow : OpenClaim := { program := "ytdolmkhpbnpjgaa", sum := "bf27ca5402fa91994a6da39d8bbafdb3ae987c342cb026d89a78ba51ec90700e", func := "loop.example/g00118/laws.FnExactAttrAdd", spec := "fnExactAttrAdd", unfollowed := true, recurses := true, apart := false, narrowed := true }
def FnExactAttrAddUptoSaid : Prop := fnExactAttrAddUptoRow.holds Try.pinned (OpenSpec.upto fnExactAttrAddSpec)

/-- 'laws.FnRef', WHERE WHAT IT READS IS OF BULK AT MOST 1048576: true; the input reads as it did. -/
def fnRefUptoRow : OpenClaim := { program := "ytdolmkhpbnpjgaa", sum := "bf27ca5402fa91994a6da39d8bbafdb3ae987c342cb026d89a78ba51ec90700e", func := "loop.example/g00118/laws.FnRef", spec := "fnRef", apart := false, narrowed := true }
def FnRefUptoSaid : Prop := fnRefUptoRow.holds Try.pinned (OpenSpec.upto fnRefSpec)

/-- 'laws.FnAttrs', WHERE WHAT IT READS IS OF BULK AT MOST 1048576: true; the input reads as it did. -/
def fnAttrsUptoRow : OpenClaim := { program := "ytdolmkhpbnpjgaa", sum := "bf27ca5402fa91994a6da39d8bbafdb3ae987c342cb026d89a78ba51ec90700e", func := "loop.example/g00118/laws.FnAttrs", spec := "fnAttrs", unfollowed := true, recurses := true, apart := false, narrowed := true }
def FnAttrsUptoSaid : Prop := fnAttrsUptoRow.holds Try.pinned (OpenSpec.upto fnAttrsSpec)

/-- 'laws.FnAlike', WHERE WHAT IT READS IS OF BULK AT MOST 1048576: true; the input reads as it did. -/
def fnAlikeUptoRow : OpenClaim := { program := "ytdolmkhpbnpjgaa", sum := "bf27ca5402fa91994a6da39d8bbafdb3ae987c342cb026d89a78ba51ec90700e", func := "loop.example/g00118/laws.FnAlike", spec := "fnAlike", unfollowed := true, recurses := true, apart := false, narrowed := true }
def FnAlikeUptoSaid : Prop := fnAlikeUptoRow.holds Try.pinned (OpenSpec.upto fnAlikeSpec)

/-- 'laws.FnExactTokenOk', WHERE WHAT IT READS IS OF BULK AT MOST 1048576: true; the input reads as it did. -/
def fnExactTokenOkUptoRow : OpenClaim := { program := "ytdolmkhpbnpjgaa", sum := "bf27ca5402fa91994a6da39d8bbafdb3ae987c342cb026d89a78ba51ec90700e", func := "loop.example/g00118/laws.FnExactTokenOk", spec := "fnExactTokenOk", unfollowed := true, recurses := true, apart := false, narrowed := true }
def FnExactTokenOkUptoSaid : Prop := fnExactTokenOkUptoRow.holds Try.pinned (OpenSpec.upto fnExactTokenOkSpec)

/-- 'laws.FnExactTreeOk', WHERE WHAT IT READS IS OF BULK AT MOST 1048576: true; the input reads as it did. -/
def fnExactTreeOkUptoRow : OpenClaim := { program := "ytdolmkhpbnpjgaa", sum := "bf27ca5402fa91994a6da39d8bbafdb3ae987c342cb026d89a78ba51ec90700e", func := "loop.example/g00118/laws.FnExactTreeOk", spec := "fnExactTreeOk", unfollowed := true, recurses := true, apart := false, narrowed := true }
def FnExactTreeOkUptoSaid : Prop := fnExactTreeOkUptoRow.holds Try.pinned (OpenSpec.upto fnExactTreeOkSpec)

/-- 'laws.FnTexts', WHERE WHAT IT READS IS OF BULK AT MOST 1048576: true; the input reads as it did. -/
def fnTextsUptoRow : OpenClaim := { program := "ytdolmkhpbnpjgaa", sum := "bf27ca5402fa91994a6da39d8bbafdb3ae987c342cb026d89a78ba51ec90700e", func := "loop.example/g00118/laws.FnTexts", spec := "fnTexts", inPlace := ["internal/abi.NoEscape"], unfollowed := true, recurses := true, apart := false, narrowed := true }
def FnTextsUptoSaid : Prop := fnTextsUptoRow.holds Try.pinned (OpenSpec.upto fnTextsSpec)

/-- 'laws.FnExactTextOf', WHERE WHAT IT READS IS OF BULK AT MOST 1048576: true; the input reads as it did. -/
def fnExactTextOfUptoRow : OpenClaim := { program := "ytdolmkhpbnpjgaa", sum := "bf27ca5402fa91994a6da39d8bbafdb3ae987c342cb026d89a78ba51ec90700e", func := "loop.example/g00118/laws.FnExactTextOf", spec := "fnExactTextOf", inPlace := ["internal/abi.NoEscape"], unfollowed := true, recurses := true, apart := false, narrowed := true }
def FnExactTextOfUptoSaid : Prop := fnExactTextOfUptoRow.holds Try.pinned (OpenSpec.upto fnExactTextOfSpec)

/-- 'laws.FnExactTreeSame', WHERE WHAT IT READS IS OF BULK AT MOST 1048576: true; the input reads as it did. -/
def fnExactTreeSameUptoRow : OpenClaim := { program := "ytdolmkhpbnpjgaa", sum := "bf27ca5402fa91994a6da39d8bbafdb3ae987c342cb026d89a78ba51ec90700e", func := "loop.example/g00118/laws.FnExactTreeSame", spec := "fnExactTreeSame", unfollowed := true, recurses := true, apart := false, narrowed := true }
def FnExactTreeSameUptoSaid : Prop := fnExactTreeSameUptoRow.holds Try.pinned (OpenSpec.upto fnExactTreeSameSpec)

/-- 'laws.FnExactTreeAdd', WHERE WHAT IT READS IS OF BULK AT MOST 1048576: true; the input reads as it did. -/
def fnExactTreeAddUptoRow : OpenClaim := { program := "ytdolmkhpbnpjgaa", sum := "bf27ca5402fa91994a6da39d8bbafdb3ae987c342cb026d89a78ba51ec90700e", func := "loop.example/g00118/laws.FnExactTreeAdd", spec := "fnExactTreeAdd", unfollowed := true, recurses := true, apart := false, narrowed := true }
def FnExactTreeAddUptoSaid : Prop := fnExactTreeAddUptoRow.holds Try.pinned (OpenSpec.upto fnExactTreeAddSpec)

/-- 'laws.FnExactTreeTidy', WHERE WHAT IT READS IS OF BULK AT MOST 1048576: true; the input reads as it did. -/
def fnExactTreeTidyUptoRow : OpenClaim := { program := "ytdolmkhpbnpjgaa", sum := "bf27ca5402fa91994a6da39d8bbafdb3ae987c342cb026d89a78ba51ec90700e", func := "loop.example/g00118/laws.FnExactTreeTidy", spec := "fnExactTreeTidy", unfollowed := true, recurses := true, apart := false, narrowed := true }
def FnExactTreeTidyUptoSaid : Prop := fnExactTreeTidyUptoRow.holds Try.pinned (OpenSpec.upto fnExactTreeTidySpec)

end Rows
end Go.Proofs.Ytdolmkhpbnpjgaa
