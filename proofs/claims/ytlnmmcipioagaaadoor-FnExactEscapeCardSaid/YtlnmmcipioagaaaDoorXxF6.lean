-- Written by this project's wip/x/xprint.py (over the kit's print) out of the translation. Lean checks it.
import Derived.Test.YtlnmmcipioagaaaDoorXx0
import Derived.Test.YtlnmmcipioagaaaDoorXxShelf
import Derived.Lib.ReplaceLaws
namespace Go.Proofs.YtlnmmcipioagaaaDoor.X
open Go.RowKit Go.Proofs.YtlnmmcipioagaaaDoorW.PrintWords Go.Proofs.YtlnmmcipioagaaaDoorW.PrintLast Go.Proofs.YtlnmmcipioagaaaDoorW.PrintMore
attribute [local go_sem] max2_int min2_int max_two min_two max_three min_three max_four min_four   -- for this text's walks alone
set_option linter.unusedVariables false
set_option linter.unusedSimpArgs false

/-! ### impl_Escape: function 6 -/
-- IMPORT Derived.Test.YtlnmmcipioagaaaDoorXxShelf
-- IMPORT Derived.Lib.ReplaceLaws
open Go.Lib in
theorem rk_len (old new : List UInt8) : ∀ (k : Nat) (s : List UInt8), (replaceK old new k s).length ≤ s.length + k * new.length := by
  intro k
  induction k with
  | zero => intro s; simp [replaceK]
  | succ k ih =>
    intro s
    unfold replaceK
    split
    · exact Nat.le_add_right _ _
    · have h := ih (s.drop ((index s old).toNat + old.length))
      rw [List.length_drop] at h
      rw [List.length_append, List.length_append, List.length_take, Nat.succ_mul]
      omega
/-- strings.ReplaceAll over texts. -/
def rb (s old new : ByteArray) : ByteArray := ⟨(Lib.replaceAll s.data.toList old.data.toList new.data.toList).toArray⟩
open Go.Lib in
theorem rb_ok (s old new : ByteArray) (h1 : 1 ≤ old.size) : (rb s old new).size ≤ s.size + s.size * new.size ∧ s.size + countB s old * new.size ≤ s.size + s.size * new.size := by
  have hc := countB_le old h1 s.size s (Nat.le_refl _)
  have hm : countB s old * new.size ≤ s.size * new.size := Nat.mul_le_mul_right _ hc
  refine ⟨?_, by omega⟩
  have e1 : (rb s old new).size = (replaceAll s.data.toList old.data.toList new.data.toList).length := by
    rw [Lib.size_eq]; rfl
  have e2 : s.data.toList.length = s.size := (Lib.size_eq s).symm
  have e3 : new.data.toList.length = new.size := (Lib.size_eq new).symm
  rw [e1]
  unfold replaceAll replace
  split
  · omega
  · have h := rk_len old.data.toList new.data.toList (replaceNum s.data.toList old.data.toList (-1)) s.data.toList
    have e4 : replaceNum s.data.toList old.data.toList (-1) = countB s old := by unfold replaceNum; rw [if_pos (Or.inl (by decide))]
    rw [e4, e2, e3] at h
    rw [e4]
    omega
theorem ra_calls (s old new : ByteArray) (m : Int) (w : World) (hs : s.size < 4294967281) (hm : w.cell? ⟨0, 0, none⟩ = some (.int .i64 m)) (h1 : 1 ≤ old.size) (hlen : s.size + Lib.countB s old * new.size ≤ 140737488355328) :
    Calls Tryd.prog 13 #[.string s, .string old, .string new] w fun e w' => e = .returned (.string (rb s old new)) ∧ Below w.heap.size w w' := Tryd.strings_ReplaceAll s old new m w hs hm h1 hlen
def impl_Escape.f (s : ByteArray) (v : Bool) : ByteArray := if v = true then rb (rb (rb s ⟨#[38]⟩ ⟨#[38, 97, 109, 112, 59]⟩) ⟨#[194, 160]⟩ ⟨#[38, 110, 98, 115, 112, 59]⟩) ⟨#[34]⟩ ⟨#[38, 113, 117, 111, 116, 59]⟩ else rb (rb (rb (rb s ⟨#[38]⟩ ⟨#[38, 97, 109, 112, 59]⟩) ⟨#[194, 160]⟩ ⟨#[38, 110, 98, 115, 112, 59]⟩) ⟨#[60]⟩ ⟨#[38, 108, 116, 59]⟩) ⟨#[62]⟩ ⟨#[38, 103, 116, 59]⟩
set_option maxHeartbeats 4000000 in
set_option maxRecDepth 100000 in
theorem impl_Escape.calls (s : ByteArray) (v : Bool) (m : Int) (w : World) (h1 : s.size ≤ 1048576) (hm : w.cell? ⟨0, 0, none⟩ = some (.int .i64 m)) :
    Calls Tryd.prog 6 #[.string s, .bool v] w fun e w' => e = .returned (.string (impl_Escape.f s v)) ∧ Below w.heap.size w w' := by
  have k1 := rb_ok s ⟨#[38]⟩ ⟨#[38, 97, 109, 112, 59]⟩ (by decide)
  have k2 := rb_ok (rb s ⟨#[38]⟩ ⟨#[38, 97, 109, 112, 59]⟩) ⟨#[194, 160]⟩ ⟨#[38, 110, 98, 115, 112, 59]⟩ (by decide)
  have z1 : (⟨#[38, 97, 109, 112, 59]⟩ : ByteArray).size = 5 := rfl
  have z2 : (⟨#[38, 110, 98, 115, 112, 59]⟩ : ByteArray).size = 6 := rfl
  have z3 : (⟨#[38, 113, 117, 111, 116, 59]⟩ : ByteArray).size = 6 := rfl
  have z4 : (⟨#[38, 108, 116, 59]⟩ : ByteArray).size = 4 := rfl
  have z5 : (⟨#[38, 103, 116, 59]⟩ : ByteArray).size = 4 := rfl
  rw [z1] at k1
  rw [z2] at k2
  have HM := Aside0.mk hm
  have K1 := Aside0.mk (show s.size < 4294967281 ∧ s.size + Lib.countB s ⟨#[38]⟩ * (⟨#[38, 97, 109, 112, 59]⟩ : ByteArray).size ≤ 140737488355328 by rw [z1]; omega)
  have K2 := Aside0.mk (show (rb s ⟨#[38]⟩ ⟨#[38, 97, 109, 112, 59]⟩).size < 4294967281 ∧ (rb s ⟨#[38]⟩ ⟨#[38, 97, 109, 112, 59]⟩).size + Lib.countB (rb s ⟨#[38]⟩ ⟨#[38, 97, 109, 112, 59]⟩) ⟨#[194, 160]⟩ * (⟨#[38, 110, 98, 115, 112, 59]⟩ : ByteArray).size ≤ 140737488355328 by rw [z2]; omega)
  generalize hs2 : rb (rb s ⟨#[38]⟩ ⟨#[38, 97, 109, 112, 59]⟩) ⟨#[194, 160]⟩ ⟨#[38, 110, 98, 115, 112, 59]⟩ = s2 at k2
  have k3 := rb_ok s2 ⟨#[34]⟩ ⟨#[38, 113, 117, 111, 116, 59]⟩ (by decide)
  have k4 := rb_ok s2 ⟨#[60]⟩ ⟨#[38, 108, 116, 59]⟩ (by decide)
  rw [z3] at k3
  rw [z4] at k4
  have k5 := rb_ok (rb s2 ⟨#[60]⟩ ⟨#[38, 108, 116, 59]⟩) ⟨#[62]⟩ ⟨#[38, 103, 116, 59]⟩ (by decide)
  rw [z5] at k5
  have K3 := Aside0.mk (show s2.size < 4294967281 ∧ s2.size + Lib.countB s2 ⟨#[34]⟩ * (⟨#[38, 113, 117, 111, 116, 59]⟩ : ByteArray).size ≤ 140737488355328 by rw [z3]; omega)
  have K4 := Aside0.mk (show s2.size < 4294967281 ∧ s2.size + Lib.countB s2 ⟨#[60]⟩ * (⟨#[38, 108, 116, 59]⟩ : ByteArray).size ≤ 140737488355328 by rw [z4]; omega)
  have K5 := Aside0.mk (show (rb s2 ⟨#[60]⟩ ⟨#[38, 108, 116, 59]⟩).size < 4294967281 ∧ (rb s2 ⟨#[60]⟩ ⟨#[38, 108, 116, 59]⟩).size + Lib.countB (rb s2 ⟨#[60]⟩ ⟨#[38, 108, 116, 59]⟩) ⟨#[62]⟩ * (⟨#[38, 103, 116, 59]⟩ : ByteArray).size ≤ 140737488355328 by rw [z5]; omega)
  have HS := Aside0.mk hs2
  have O1 := Aside0.mk (show 1 ≤ (⟨#[38]⟩ : ByteArray).size by decide)
  have O2 := Aside0.mk (show 1 ≤ (⟨#[194, 160]⟩ : ByteArray).size by decide)
  have O3 := Aside0.mk (show 1 ≤ (⟨#[34]⟩ : ByteArray).size by decide)
  have O4 := Aside0.mk (show 1 ≤ (⟨#[60]⟩ : ByteArray).size by decide)
  have O5 := Aside0.mk (show 1 ≤ (⟨#[62]⟩ : ByteArray).size by decide)
  clear k1 k2 k3 k4 k5 z1 z2 z3 z4 z5 hm h1 hs2
  unfold impl_Escape.f
  cases v with
  | true =>
    rw [if_pos rfl, HS.out]
    go_enter Tryd.func6, Tryd.ntmps6
    go_wp2_with (first | (go_at_call 13; (with_reducible refine (ra_calls s ⟨#[38]⟩ ⟨#[38, 97, 109, 112, 59]⟩ m _ K1.out.1 HM.out O1.out K1.out.2).mono ?_); rintro e w1 ⟨rfl, hb⟩; have HB1 := Aside0.mk hb; clear hb) | (go_at_call 13; (with_reducible refine (ra_calls (rb s ⟨#[38]⟩ ⟨#[38, 97, 109, 112, 59]⟩) ⟨#[194, 160]⟩ ⟨#[38, 110, 98, 115, 112, 59]⟩ m _ K2.out.1 (pw_cell_below HB1.out HM.out) O2.out K2.out.2).mono ?_); rintro e w2 ⟨rfl, hb⟩; rw [HS.out]; have HB2 := Aside0.mk (below_step HB1.out hb); clear hb) | (go_at_call 13; (with_reducible refine (ra_calls s2 ⟨#[34]⟩ ⟨#[38, 113, 117, 111, 116, 59]⟩ m _ K3.out.1 (pw_cell_below HB2.out HM.out) O3.out K3.out.2).mono ?_); rintro e w3 ⟨rfl, hb⟩; have HB3 := Aside0.mk (below_step HB2.out hb); clear hb))
    go_ret
    exact ⟨rfl, HB3.out⟩
  | false =>
    rw [if_neg (by decide), HS.out]
    go_enter Tryd.func6, Tryd.ntmps6
    go_wp2_with (first | (go_at_call 13; (with_reducible refine (ra_calls s ⟨#[38]⟩ ⟨#[38, 97, 109, 112, 59]⟩ m _ K1.out.1 HM.out O1.out K1.out.2).mono ?_); rintro e w1 ⟨rfl, hb⟩; have HB1 := Aside0.mk hb; clear hb) | (go_at_call 13; (with_reducible refine (ra_calls (rb s ⟨#[38]⟩ ⟨#[38, 97, 109, 112, 59]⟩) ⟨#[194, 160]⟩ ⟨#[38, 110, 98, 115, 112, 59]⟩ m _ K2.out.1 (pw_cell_below HB1.out HM.out) O2.out K2.out.2).mono ?_); rintro e w2 ⟨rfl, hb⟩; rw [HS.out]; have HB2 := Aside0.mk (below_step HB1.out hb); clear hb) | (go_at_call 13; (with_reducible refine (ra_calls s2 ⟨#[60]⟩ ⟨#[38, 108, 116, 59]⟩ m _ K4.out.1 (pw_cell_below HB2.out HM.out) O4.out K4.out.2).mono ?_); rintro e w4 ⟨rfl, hb⟩; have HB4 := Aside0.mk (below_step HB2.out hb); clear hb) | (go_at_call 13; (with_reducible refine (ra_calls (rb s2 ⟨#[60]⟩ ⟨#[38, 108, 116, 59]⟩) ⟨#[62]⟩ ⟨#[38, 103, 116, 59]⟩ m _ K5.out.1 (pw_cell_below HB4.out HM.out) O5.out K5.out.2).mono ?_); rintro e w5 ⟨rfl, hb⟩; have HB5 := Aside0.mk (below_step HB4.out hb); clear hb))
    go_ret
    exact ⟨rfl, HB5.out⟩

end Go.Proofs.YtlnmmcipioagaaaDoor.X
