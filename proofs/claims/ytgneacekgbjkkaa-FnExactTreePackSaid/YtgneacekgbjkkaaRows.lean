/-
  No cell of these rows narrows 'for every input' (looked for: loops, veiled, ifaces, maps, wideKeys, modest, calm, conditions, laid).
  DERIVED. THE GIVEN ROWS OF THIS SEAT. 7 by the template 'for every input the law returns true; each argument reads behind the call as it read before'; 0 by the template 'total and deterministic' (their statements: YtgneacekgbjkkaaTotals.lean).
  GIVEN WITH THE SEED: the statements are not yours to turn. If you find one false, say at which input.
  Laid BY PROGRAM, IN A SANDBOX (cutbox-rows.mjs): the forced cells as the released guide's own fill.sh prints them over the translation d1d1f68658c8729e… (all of the seat's roots in one cut). By AI agents, Wed Nov 11 2026. No macro, syntax, notation, axiom, sorry.
-/
import Derived.Test.YtgneacekgbjkkaaChecked
import GoSem.Claim
import GoSem.ClaimJoined
import GoSem.ClaimMapViews
import Derived.JoinedTies
import Derived.KernelRfl
namespace Go.Proofs.Ytgneacekgbjkkaa
/- THE CELL 'sum', in the pinned program and in every row, IS THE sha256 OF THE DUMP (.gsa) THAT YtgneacekgbjkkaaProg.lean LOADS. Nothing in Lean hashes anything: it is a label: what it is worth is what the hold of that sum in a sandbox is worth. -/
noncomputable def Try.pinned : Pinned := { name := "ytgneacekgbjkkaa", sum := "d1d1f68658c8729ea2c75379ac81fb3ce63f64bbad8a19fc435e9d1188ab1e69", checked := Try.checked }
namespace Rows
def none {H : Type} : Left H := { results := [], args := [] }

/-- 'laws.FnExactTreeOk': WHATEVER THE INPUT: true; the input reads as it did. -/
def fnExactTreeOkSpec : ChangeSpec := { name := "fnExactTreeOk", fn := fun _ => fun
  | [d] => { results := [.lit (.bool true)], args := [d] }
  | _ => none }
def fnExactTreeOkRow : OpenClaim := { program := "ytgneacekgbjkkaa", sum := "d1d1f68658c8729ea2c75379ac81fb3ce63f64bbad8a19fc435e9d1188ab1e69", func := "loop.example/g00118/laws.FnExactTreeOk", spec := "fnExactTreeOk", unfollowed := true, recurses := true, apart := false }
def FnExactTreeOkSaid : Prop := fnExactTreeOkRow.holds Try.pinned (OpenSpec.ofChange fnExactTreeOkSpec)

/-- ITS FALSE NEIGHBOUR: 'it returns false'. Refute it at one input. -/
def fnExactTreeOkWrong : ChangeSpec := { name := "fnExactTreeOk", fn := fun _ => fun
  | [d] => { results := [.lit (.bool false)], args := [d] }
  | _ => none }
def FnExactTreeOkWrongFalsely : Prop := fnExactTreeOkRow.holds Try.pinned (OpenSpec.ofChange fnExactTreeOkWrong)

/-- 'laws.FnExactTreeSame': WHATEVER THE INPUT: true; the input reads as it did. -/
def fnExactTreeSameSpec : ChangeSpec := { name := "fnExactTreeSame", fn := fun _ => fun
  | [d1, d2] => { results := [.lit (.bool true)], args := [d1, d2] }
  | _ => none }
def fnExactTreeSameRow : OpenClaim := { program := "ytgneacekgbjkkaa", sum := "d1d1f68658c8729ea2c75379ac81fb3ce63f64bbad8a19fc435e9d1188ab1e69", func := "loop.example/g00118/laws.FnExactTreeSame", spec := "fnExactTreeSame", unfollowed := true, recurses := true, apart := false }
def FnExactTreeSameSaid : Prop := fnExactTreeSameRow.holds Try.pinned (OpenSpec.ofChange fnExactTreeSameSpec)

/-- ITS FALSE NEIGHBOUR: 'it returns false'. Refute it at one input. -/
def fnExactTreeSameWrong : ChangeSpec := { name := "fnExactTreeSame", fn := fun _ => fun
  | [d1, d2] => { results := [.lit (.bool false)], args := [d1, d2] }
  | _ => none }
def FnExactTreeSameWrongFalsely : Prop := fnExactTreeSameRow.holds Try.pinned (OpenSpec.ofChange fnExactTreeSameWrong)

/-- 'laws.FnExactTreeTidy': WHATEVER THE INPUT: true; the input reads as it did. -/
def fnExactTreeTidySpec : ChangeSpec := { name := "fnExactTreeTidy", fn := fun _ => fun
  | [d] => { results := [.lit (.bool true)], args := [d] }
  | _ => none }
def fnExactTreeTidyRow : OpenClaim := { program := "ytgneacekgbjkkaa", sum := "d1d1f68658c8729ea2c75379ac81fb3ce63f64bbad8a19fc435e9d1188ab1e69", func := "loop.example/g00118/laws.FnExactTreeTidy", spec := "fnExactTreeTidy", unfollowed := true, recurses := true, apart := false }
def FnExactTreeTidySaid : Prop := fnExactTreeTidyRow.holds Try.pinned (OpenSpec.ofChange fnExactTreeTidySpec)

/-- ITS FALSE NEIGHBOUR: 'it returns false'. Refute it at one input. -/
def fnExactTreeTidyWrong : ChangeSpec := { name := "fnExactTreeTidy", fn := fun _ => fun
  | [d] => { results := [.lit (.bool false)], args := [d] }
  | _ => none }
def FnExactTreeTidyWrongFalsely : Prop := fnExactTreeTidyRow.holds Try.pinned (OpenSpec.ofChange fnExactTreeTidyWrong)

/-- 'laws.FnExactTreeAdd': WHATEVER THE INPUT: true; the input reads as it did. -/
def fnExactTreeAddSpec : ChangeSpec := { name := "fnExactTreeAdd", fn := fun _ => fun
  | [d1, d2] => { results := [.lit (.bool true)], args := [d1, d2] }
  | _ => none }
def fnExactTreeAddRow : OpenClaim := { program := "ytgneacekgbjkkaa", sum := "d1d1f68658c8729ea2c75379ac81fb3ce63f64bbad8a19fc435e9d1188ab1e69", func := "loop.example/g00118/laws.FnExactTreeAdd", spec := "fnExactTreeAdd", unfollowed := true, recurses := true, apart := false }
def FnExactTreeAddSaid : Prop := fnExactTreeAddRow.holds Try.pinned (OpenSpec.ofChange fnExactTreeAddSpec)

/-- ITS FALSE NEIGHBOUR: 'it returns false'. Refute it at one input. -/
def fnExactTreeAddWrong : ChangeSpec := { name := "fnExactTreeAdd", fn := fun _ => fun
  | [d1, d2] => { results := [.lit (.bool false)], args := [d1, d2] }
  | _ => none }
def FnExactTreeAddWrongFalsely : Prop := fnExactTreeAddRow.holds Try.pinned (OpenSpec.ofChange fnExactTreeAddWrong)

/-- 'laws.FnExactTextOf': WHATEVER THE INPUT: true; the input reads as it did. -/
def fnExactTextOfSpec : ChangeSpec := { name := "fnExactTextOf", fn := fun _ => fun
  | [d1, d2] => { results := [.lit (.bool true)], args := [d1, d2] }
  | _ => none }
def fnExactTextOfRow : OpenClaim := { program := "ytgneacekgbjkkaa", sum := "d1d1f68658c8729ea2c75379ac81fb3ce63f64bbad8a19fc435e9d1188ab1e69", func := "loop.example/g00118/laws.FnExactTextOf", spec := "fnExactTextOf", inPlace := ["internal/abi.NoEscape"], unfollowed := true, recurses := true, apart := false }
def FnExactTextOfSaid : Prop := fnExactTextOfRow.holds Try.pinned (OpenSpec.ofChange fnExactTextOfSpec)

/-- ITS FALSE NEIGHBOUR: 'it returns false'. Refute it at one input. -/
def fnExactTextOfWrong : ChangeSpec := { name := "fnExactTextOf", fn := fun _ => fun
  | [d1, d2] => { results := [.lit (.bool false)], args := [d1, d2] }
  | _ => none }
def FnExactTextOfWrongFalsely : Prop := fnExactTextOfRow.holds Try.pinned (OpenSpec.ofChange fnExactTextOfWrong)

/-- 'laws.FnTexts': WHATEVER THE INPUT: true; the input reads as it did. -/
def fnTextsSpec : ChangeSpec := { name := "fnTexts", fn := fun _ => fun
  | [d] => { results := [.lit (.bool true)], args := [d] }
  | _ => none }
def fnTextsRow : OpenClaim := { program := "ytgneacekgbjkkaa", sum := "d1d1f68658c8729ea2c75379ac81fb3ce63f64bbad8a19fc435e9d1188ab1e69", func := "loop.example/g00118/laws.FnTexts", spec := "fnTexts", inPlace := ["internal/abi.NoEscape"], unfollowed := true, recurses := true, apart := false }
def FnTextsSaid : Prop := fnTextsRow.holds Try.pinned (OpenSpec.ofChange fnTextsSpec)

/-- ITS FALSE NEIGHBOUR: 'it returns false'. Refute it at one input. -/
def fnTextsWrong : ChangeSpec := { name := "fnTexts", fn := fun _ => fun
  | [d] => { results := [.lit (.bool false)], args := [d] }
  | _ => none }
def FnTextsWrongFalsely : Prop := fnTextsRow.holds Try.pinned (OpenSpec.ofChange fnTextsWrong)

/-- 'laws.FnExactTreePack': WHATEVER THE INPUT: true; the input reads as it did. -/
def fnExactTreePackSpec : ChangeSpec := { name := "fnExactTreePack", fn := fun _ => fun
  | [d] => { results := [.lit (.bool true)], args := [d] }
  | _ => none }
def fnExactTreePackRow : OpenClaim := { program := "ytgneacekgbjkkaa", sum := "d1d1f68658c8729ea2c75379ac81fb3ce63f64bbad8a19fc435e9d1188ab1e69", func := "loop.example/g00118/laws.FnExactTreePack", spec := "fnExactTreePack", unfollowed := true, recurses := true, apart := false }
def FnExactTreePackSaid : Prop := fnExactTreePackRow.holds Try.pinned (OpenSpec.ofChange fnExactTreePackSpec)

/-- ITS FALSE NEIGHBOUR: 'it returns false'. Refute it at one input. -/
def fnExactTreePackWrong : ChangeSpec := { name := "fnExactTreePack", fn := fun _ => fun
  | [d] => { results := [.lit (.bool false)], args := [d] }
  | _ => none }
def FnExactTreePackWrongFalsely : Prop := fnExactTreePackRow.holds Try.pinned (OpenSpec.ofChange fnExactTreePackWrong)

/- THE SECOND FORM. 'bulk': how many values and letters a reading holds, each counted each time it is reached (what is shared counts as often as it is met; a slice's spare places count too). A statement '..UptoSaid' is the law's where the arguments, and the package variables that the reading takes, are together of bulk at most 1048576: NARROWER than '..Said'. Prove '..Said' where nothing that the law and all that it calls make is longer than what came in: it says more and counts as full. Else prove '..UptoSaid'. A law counts once. -/
mutual
def uptoBulk {H : Type} : DataW H → Nat
  | .lit (.string bytes) => bytes.length + 1
  | .lit _ => 1
  | .nil => 1
  | .ptr d => uptoBulk d + 1
  | .slice elems spare => uptoBulkAll elems + uptoBulkAll spare + 1
  | .agg parts => uptoBulkAll parts + 1
  | .iface _ d => uptoBulk d + 1
  | .map entries => uptoBulkEntries entries + 1
  | .held _ => 1
def uptoBulkAll {H : Type} : List (DataW H) → Nat
  | [] => 0
  | d :: r => uptoBulk d + uptoBulkAll r
def uptoBulkEntries {H : Type} : List (Lit × DataW H) → Nat
  | [] => 0
  | x :: r => uptoBulkEntry x + uptoBulkEntries r
def uptoBulkEntry {H : Type} : Lit × DataW H → Nat
  | (.string bytes, d) => bytes.length + uptoBulk d + 1
  | (_, d) => uptoBulk d + 1
 end
def uptoSmall : (H : Type) → List (DataW H) → Bool := fun _ ds => decide (uptoBulkAll ds ≤ 1048576)
def OpenSpec.upto (s : _root_.Go.ChangeSpec) : _root_.Go.OpenSpec := { _root_.Go.OpenSpec.ofChange s with cond := some uptoSmall }

/-- 'laws.FnExactTreeOk', WHERE WHAT IT READS IS OF BULK AT MOST 1048576: true; the input reads as it did. -/
def fnExactTreeOkUptoRow : OpenClaim := { program := "ytgneacekgbjkkaa", sum := "d1d1f68658c8729ea2c75379ac81fb3ce63f64bbad8a19fc435e9d1188ab1e69", func := "loop.example/g00118/laws.FnExactTreeOk", spec := "fnExactTreeOk", unfollowed := true, recurses := true, apart := false, narrowed := true }
def FnExactTreeOkUptoSaid : Prop := fnExactTreeOkUptoRow.holds Try.pinned (OpenSpec.upto fnExactTreeOkSpec)

/-- 'laws.FnExactTreeSame', WHERE WHAT IT READS IS OF BULK AT MOST 1048576: true; the input reads as it did. -/
def fnExactTreeSameUptoRow : OpenClaim := { program := "ytgneacekgbjkkaa", sum := "d1d1f68658c8729ea2c75379ac81fb3ce63f64bbad8a19fc435e9d1188ab1e69", func := "loop.example/g00118/laws.FnExactTreeSame", spec := "fnExactTreeSame", unfollowed := true, recurses := true, apart := false, narrowed := true }
def FnExactTreeSameUptoSaid : Prop := fnExactTreeSameUptoRow.holds Try.pinned (OpenSpec.upto fnExactTreeSameSpec)

/-- 'laws.FnExactTreeTidy', WHERE WHAT IT READS IS OF BULK AT MOST 1048576: true; the input reads as it did. -/
def fnExactTreeTidyUptoRow : OpenClaim := { program := "ytgneacekgbjkkaa", sum := "d1d1f68658c8729ea2c75379ac81fb3ce63f64bbad8a19fc435e9d1188ab1e69", func := "loop.example/g00118/laws.FnExactTreeTidy", spec := "fnExactTreeTidy", unfollowed := true, recurses := true, apart := false, narrowed := true }
def FnExactTreeTidyUptoSaid : Prop := fnExactTreeTidyUptoRow.holds Try.pinned (OpenSpec.upto fnExactTreeTidySpec)

/-- 'laws.FnExactTreeAdd', WHERE WHAT IT READS IS OF BULK AT MOST 1048576: true; the input reads as it did. -/
def fnExactTreeAddUptoRow : OpenClaim := { program := "ytgneacekgbjkkaa", sum := "d1d1f68658c8729ea2c75379ac81fb3ce63f64bbad8a19fc435e9d1188ab1e69", func := "loop.example/g00118/laws.FnExactTreeAdd", spec := "fnExactTreeAdd", unfollowed := true, recurses := true, apart := false, narrowed := true }
def FnExactTreeAddUptoSaid : Prop := fnExactTreeAddUptoRow.holds Try.pinned (OpenSpec.upto fnExactTreeAddSpec)

/-- 'laws.FnExactTextOf', WHERE WHAT IT READS IS OF BULK AT MOST 1048576: true; the input reads as it did. -/
def fnExactTextOfUptoRow : OpenClaim := { program := "ytgneacekgbjkkaa", sum := "d1d1f68658c8729ea2c75379ac81fb3ce63f64bbad8a19fc435e9d1188ab1e69", func := "loop.example/g00118/laws.FnExactTextOf", spec := "fnExactTextOf", inPlace := ["internal/abi.NoEscape"], unfollowed := true, recurses := true, apart := false, narrowed := true }
def FnExactTextOfUptoSaid : Prop := fnExactTextOfUptoRow.holds Try.pinned (OpenSpec.upto fnExactTextOfSpec)

/-- 'laws.FnTexts', WHERE WHAT IT READS IS OF BULK AT MOST 1048576: true; the input reads as it did. -/
def fnTextsUptoRow : OpenClaim := { program := "ytgneacekgbjkkaa", sum := "d1d1f68658c8729ea2c75379ac81fb3ce63f64bbad8a19fc435e9d1188ab1e69", func := "loop.example/g00118/laws.FnTexts", spec := "fnTexts", inPlace := ["internal/abi.NoEscape"], unfollowed := true, recurses := true, apart := false, narrowed := true }
def FnTextsUptoSaid : Prop := fnTextsUptoRow.holds Try.pinned (OpenSpec.upto fnTextsSpec)

/-- 'laws.FnExactTreePack', WHERE WHAT IT READS IS OF BULK AT MOST 1048576: true; the input reads as it did. -/
def fnExactTreePackUptoRow : OpenClaim := { program := "ytgneacekgbjkkaa", sum := "d1d1f68658c8729ea2c75379ac81fb3ce63f64bbad8a19fc435e9d1188ab1e69", func := "loop.example/g00118/laws.FnExactTreePack", spec := "fnExactTreePack", unfollowed := true, recurses := true, apart := false, narrowed := true }
def FnExactTreePackUptoSaid : Prop := fnExactTreePackUptoRow.holds Try.pinned (OpenSpec.upto fnExactTreePackSpec)

end Rows
end Go.Proofs.Ytgneacekgbjkkaa
