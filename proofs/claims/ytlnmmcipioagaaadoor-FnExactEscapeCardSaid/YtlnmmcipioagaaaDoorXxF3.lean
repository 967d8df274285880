-- Written by this project's wip/x/xprint.py (over the kit's print) out of the translation. Lean checks it.
import Derived.Test.YtlnmmcipioagaaaDoorXx0
import Derived.Test.YtlnmmcipioagaaaDoorXxF5
import Derived.Test.YtlnmmcipioagaaaDoorXxF6
namespace Go.Proofs.YtlnmmcipioagaaaDoor.X
open Go.RowKit Go.Proofs.YtlnmmcipioagaaaDoorW.PrintWords Go.Proofs.YtlnmmcipioagaaaDoorW.PrintLast Go.Proofs.YtlnmmcipioagaaaDoorW.PrintMore
attribute [local go_sem] max2_int min2_int max_two min_two max_three min_three max_four min_four   -- for this text's walks alone
set_option linter.unusedVariables false
set_option linter.unusedSimpArgs false

/-! ### laws_FnExactEscape: function 3 -/
set_option maxHeartbeats 4000000 in
set_option maxRecDepth 100000 in
theorem laws_FnExactEscape.calls (k : Nat) (s : ByteArray) (v : Bool) (m : Int) (w : World) (hm : w.cell? ⟨0, 0, none⟩ = some (.int .i64 m)) (h : s.size ≤ 1048576 → spec_Escape.f k s v = some (impl_Escape.f s v)) :
    Calls Tryd.prog 3 #[.string s, .bool v] w fun e w' => e = .returned (.bool true) ∧ Below w.heap.size w w' := by
  by_cases c2 : (s.size : Int) > 1048576
  · have c2b0 : decide (1048576 < (s.size : Int)) = true := decide_eq_true c2
    have c2b1 : decide (1048576 < s.size) = true := decide_eq_true (by omega)
    clear c2
    go_enter Tryd.func3, Tryd.ntmps3
    go_wp2
    go_ret
    exact ⟨rfl, Below.refl _ _⟩
  · have c2b0 : decide (1048576 < (s.size : Int)) = false := decide_eq_false c2
    have c2b1 : decide (1048576 < s.size) = false := decide_eq_false (by omega)
    have HZ := Aside0.mk (show s.size ≤ 1048576 by omega)
    have HA := Aside0.mk (h HZ.out)
    have HM := Aside0.mk hm
    clear c2 h hm
    have HI := fun w1 hm1 => impl_Escape.calls s v m w1 HZ.out hm1
    generalize impl_Escape.f s v = z at HA HI
    have HI := Aside0.mk HI
    have hq : (z.toList != z.toList) = false := by simp
    go_enter Tryd.func3, Tryd.ntmps3
    go_wp2_with (first | (go_at_call 5; (with_reducible refine (spec_Escape.calls k s v z _ HA.out).mono ?_); rintro e w1 ⟨rfl, hb⟩; have HB1 := Aside0.mk hb; clear hb) | (go_at_call 6; (refine (HI.out _ (pw_cell_below HB1.out HM.out)).mono ?_); rintro e w2 ⟨rfl, hb⟩; have HB2 := Aside0.mk (below_step HB1.out hb); clear hb))
    go_ret
    exact ⟨rfl, HB2.out⟩

end Go.Proofs.YtlnmmcipioagaaaDoor.X
