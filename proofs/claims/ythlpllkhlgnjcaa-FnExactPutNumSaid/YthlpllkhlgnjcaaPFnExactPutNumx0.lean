-- PRINTED BY print.sh 35421559b90ae4d0a3588c463048766b98c2df88dd9212a6774a882060cdf62d: not written by this session
import Derived.Test.YthlpllkhlgnjcaaProg
import Derived.Below
import Derived.Deep.Draws
import Derived.Deep.AppendLies
import Derived.Maps.AppendAt
import Derived.OwnWalk
import Derived.Laws.BytesArg
import Derived.Laws.MakeOwn
import Derived.Laws.OwnMore
import Derived.Deep.OwnRows
import Derived.Tactics
import Derived.Lib.ConvBytes
import Derived.Laws.Slices
import Derived.WalkKit
import Derived.KernelRfl
import Derived.RowKit3
import Derived.Deep.LoopGhost
import Derived.Deep.QuietTactic
import Derived.BigQuiet
import Derived.WideLaws
import Derived.Deep.DeepCutAuto
import Derived.Deep.CutBlock
import Derived.Deep.RegionHeld3
import Derived.Laws.Rows
import Derived.Lib.AppendStr
import Derived.ArgAppend
import Derived.Laws.IdiomCopy
import Derived.OrdersHeld
import Derived.Laws.BitsLemmas
import Derived.RowKit
import Derived.Test.YthlpllkhlgnjcaaWWords
import Derived.Test.YthlpllkhlgnjcaaWLast
import Derived.Test.YthlpllkhlgnjcaaWTab
import Derived.Test.YthlpllkhlgnjcaaWFour
import Derived.Test.YthlpllkhlgnjcaaWQPut
import Derived.Test.YthlpllkhlgnjcaaWApart
import Derived.Test.YthlpllkhlgnjcaaWArr
import Derived.Test.YthlpllkhlgnjcaaWZeros
import Derived.Test.YthlpllkhlgnjcaaWFoot
import Derived.Test.YthlpllkhlgnjcaaWKept
import Derived.Test.YthlpllkhlgnjcaaWShare
import Derived.Test.YthlpllkhlgnjcaaWN
import Derived.Test.YthlpllkhlgnjcaaWFootNe
import Derived.Test.YthlpllkhlgnjcaaWAt
import Derived.Test.YthlpllkhlgnjcaaWEqStruct
import Derived.Test.YthlpllkhlgnjcaaWRepsOne
import Derived.Test.YthlpllkhlgnjcaaWInv
import Derived.Test.YthlpllkhlgnjcaaWInvWords
import Derived.Test.YthlpllkhlgnjcaaWGuard
import Derived.Test.YthlpllkhlgnjcaaWNEv
import Derived.Test.YthlpllkhlgnjcaaWMore
namespace Go.Proofs.Ythlpllkhlgnjcaa.PFnExactPutNum
open Go.RowKit Go.Proofs.YthlpllkhlgnjcaaW.PrintWords Go.Proofs.YthlpllkhlgnjcaaW.PrintLast Go.Proofs.YthlpllkhlgnjcaaW.PrintMore
attribute [local go_sem] max2_int min2_int max_two min_two max_three min_three max_four min_four   -- for this text's walks alone
set_option linter.unusedVariables false
set_option linter.unusedSimpArgs false



def errW : Option Int → Value
  | none => .nilIface
  | some c => .iface 0 (.int .i64 c)
theorem errW_none : errW none = .nilIface := rfl
theorem errW_some (c : Int) : errW (some c) = .iface 0 (.int .i64 c) := rfl

theorem info5 : (Try.prog.info? 5).map (fun i => (i.zero, i.size, i.bytes)) = some (some (.int .u8 0), 1, 1) := by kernel_rfl
-- the values' own types

end Go.Proofs.Ythlpllkhlgnjcaa.PFnExactPutNum
