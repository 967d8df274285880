/- The program's Escape gives, for every text and either use, what the reference's gives. (A plain statement over numbers and lists; the row behind it carries it to the program.) Conditions: none beyond the row's own. -/
import Derived.Test.YtlnmmcipioagaaaDoorXxF5
import Derived.Test.YtlnmmcipioagaaaDoorXxF6
import Derived.Test.YtlnmmcipioagaaaDoorYbase
import Derived.Test.YtlnmmcipioagaaaDoorYescS
namespace Go.Proofs.YtlnmmcipioagaaaDoor.Pure
open Go.RowKit Go.Proofs.YtlnmmcipioagaaaDoor.X Go.Proofs.YtlnmmcipioagaaaDoorW.PrintWords Go.Proofs.YtlnmmcipioagaaaDoorW.PrintLast Go.Proofs.YtlnmmcipioagaaaDoorW.PrintMore Go.Proofs.YtlnmmcipioagaaaDoor.Y
set_option linter.unusedVariables false
set_option linter.unusedSimpArgs false
theorem FnExactEscape (s : ByteArray) (v : Bool) (h : s.size ≤ 1048576) : ∃ k, spec_Escape.f k s v = some (impl_Escape.f s v) :=
  Ev.rounds (g := fun k => spec_Escape.f k s v) (spec_Escape_ev s v h)

end Go.Proofs.YtlnmmcipioagaaaDoor.Pure
