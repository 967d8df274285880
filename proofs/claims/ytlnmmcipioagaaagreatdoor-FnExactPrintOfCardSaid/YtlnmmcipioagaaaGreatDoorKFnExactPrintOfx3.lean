/- What the Go functions that FnExactPrintOf reaches compute, and that their walks come to just that (written by a program of this project over the kit's print). Conditions: as each states. -/
import Derived.Shelf.Abstract
import Derived.Shelf.Strings.Builder1
import Derived.Shelf.Strings.BuilderF
import Derived.Shelf.Strings.BuilderK
import Derived.Test.YtlnmmcipioagaaaGreatDoorProg
import Derived.Lib.ReplaceLaws
import Derived.Shelf.Strings.MapGrows
import Derived.Lib.BufferKept
import Derived.Deep.RegionHeld3
import Derived.Deep.QuietTactic
import Derived.BigQuiet
import Derived.StillTailTactics
import Derived.Test.YtlnmmcipioagaaaGreatDoorKFnExactPrintOfx2
set_option maxHeartbeats 64000000
set_option maxRecDepth 100000
namespace Go.Proofs.YtlnmmcipioagaaaGreatDoor.X
open Go.RowKit Go.Proofs.YtlnmmcipioagaaaGreatDoorW.PrintWords Go.Proofs.YtlnmmcipioagaaaGreatDoorW.PrintLast Go.Proofs.YtlnmmcipioagaaaGreatDoorW.PrintMore
attribute [local go_sem] max2_int min2_int max_two min_two max_three min_three max_four min_four
set_option linter.unusedVariables false
set_option linter.unusedSimpArgs false
def impl_textOk.f (k : Nat) (a0 : ByteArray) : Option (Bool) := if a0.size ≤ 140737488355328 then ((impl_UtfOk.f k (bytesOf a0)).bind fun t104 => (some t104)) else (none)
theorem impl_textOk.mono : ∀ a0 k, LeO (impl_textOk.f k a0) (impl_textOk.f (k + 1) a0) := by
 intro a0 k
 unfold impl_textOk.f
 repeat' (with_reducible first | exact impl_UtfOk.mono _ _ | exact LeO.refl _ | exact LeO.none _ | refine LeO.ite ?_ ?_ | refine LeO.bind ?_ (fun _ => ?_))
theorem impl_textOk.calls (k : Nat) (a0 : ByteArray) (r : Bool) (w : World) (h : impl_textOk.f k a0 = some r) :
 Calls Tryz.prog 57 #[.string a0] w fun e w' => e = .returned (.bool r) ∧ Below w.heap.size w w' := by
 have HB := Ak (Below.refl w.heap.size w)
 have H : (if a0.size ≤ 140737488355328 then ((impl_UtfOk.f k (bytesOf a0)).bind fun t104 => (some t104)) else (none)) = some r := h
 clear h
 by_cases c2 : a0.size ≤ 140737488355328
 ·rw [if_pos c2] at H
  have c2b0 := eq_true c2
  have c2b1 := decide_eq_true c2
  clear c2
  obtain ⟨y101, hy101⟩ : ∃ y_ : List Int, y_ = (bytesOf a0) := ⟨_, rfl⟩
  replace H : ((impl_UtfOk.f k y101).bind fun t104 => (some t104)) = some r := by rw [hy101]; exact H
  have Ny101 := Ak hy101
  clear hy101
  replace H := Ob H
  obtain ⟨t104, A30, H⟩ := H
  replace H : (some t104) = some r := H
  have A3 := Ak A30
  clear A30
  obtain rfl := Oi H
  go_enter Tryz.func57, Tryz.ntmps57
  go_wp2_with (first | ((with_reducible refine gate_dst (N := 4) rfl ?_); refine conv_V _ 5 rfl (N' := 4) rfl 9 33 _ rfl a0 rfl Tryz.underlying9 Tryz.underlying33 Tryz.underlying5 (of_decide_eq_true (by assumption) : a0.size ≤ 140737488355328) (ok := fun k_ => w.heap.size ≤ k_) (Nat.le_refl _) (Below.refl _ _) (Nat.le_refl _) ?_; intro v102 w4 ho5 hb hg_ hnew_; clear hg_ hnew_; (first | rw [← Ny101.out] at ho5 | (simp only [Int.reduceToNat] at ho5; rw [← Ny101.out] at ho5)); replace HO103 := Ak (Kd.V_lower (Kd.V_mono (ok' := fun k_ => True) ho5 (fun k_ hk_ => trivial)) (below_size (HB.out))); replace HB := Ak (below_step (HB.out) hb); clear hb ho5; obtain ⟨Ao6, co6, eo6⟩ := Kd.V_slice HO103.out; subst eo6) | (go_at_call 89; (with_reducible refine (impl_UtfOk.calls k _ _ y101 t104 _ ?side1 ?side2 A3.out).mono ?_); (case side1 => repeat (first | exact (Kd.V_reads' HO103.out).2.2 | (with_reducible refine Kd.C_alloc ?_ _) | (with_reducible refine Kd.C_drewN ?_ _) | (with_reducible refine Kd.C_drew ?_))); (case side2 => exact (Kd.V_reads' HO103.out).2.1); rintro e w7 ⟨rfl, hb⟩; replace HO103 := Ak (Kd.V_below HO103.out hb); replace HB := Ak (below_step (HB.out) hb); (try clear hb); (try clear hb2); (try clear hk); (try clear hi)))
  go_ret
  exact ⟨by first | rfl | (simp [*] <;> rfl), HB.out⟩
 ·rw [if_neg c2] at H
  exact absurd H (by simp)
def impl_doctypeOk.f (k : Nat) (a0 : ByteArray) : Option (Bool) := if (a0.size : Int) ≤ 60 then ((impl_textOk.f k a0).bind fun t101 => (some t101)) else (some false)
theorem impl_doctypeOk.mono : ∀ a0 k, LeO (impl_doctypeOk.f k a0) (impl_doctypeOk.f (k + 1) a0) := by
 intro a0 k
 unfold impl_doctypeOk.f
 repeat' (with_reducible first | exact impl_textOk.mono _ _ | exact LeO.refl _ | exact LeO.none _ | refine LeO.ite ?_ ?_ | refine LeO.bind ?_ (fun _ => ?_))
theorem impl_doctypeOk.calls (k : Nat) (a0 : ByteArray) (r : Bool) (w : World) (h : impl_doctypeOk.f k a0 = some r) :
 Calls Tryz.prog 54 #[.string a0] w fun e w' => e = .returned (.bool r) ∧ Below w.heap.size w w' := by
 have HB := Ak (Below.refl w.heap.size w)
 have H : (if (a0.size : Int) ≤ 60 then ((impl_textOk.f k a0).bind fun t101 => (some t101)) else (some false)) = some r := h
 clear h
 by_cases c2 : (a0.size : Int) ≤ 60
 ·rw [if_pos c2] at H
  have c2b0 := decide_eq_true c2
  have c2b1 : decide (a0.size ≤ 60) = true := decide_eq_true (by omega)
  clear c2
  replace H := Ob H
  obtain ⟨t101, A30, H⟩ := H
  replace H : (some t101) = some r := H
  have A3 := Ak A30
  clear A30
  obtain rfl := Oi H
  go_enter Tryz.func54, Tryz.ntmps54
  go_wp2_with (first | (go_at_call 57; (with_reducible refine (impl_textOk.calls k a0 t101 _ A3.out).mono ?_); rintro e w4 ⟨rfl, hb⟩; have n0_ := Ak (below_step (by repeat (first | exact HB.out | apply below_alloc | apply pw_below_drewN | apply below_drew1)) hb); clear HB; have HB := n0_; clear n0_; (try clear hb); (try clear hb2); (try clear hk); (try clear hi)))
  go_ret
  exact ⟨rfl, by repeat (first | exact HB.out | apply below_alloc | apply pw_below_drewN | apply below_drew1)⟩
 ·rw [if_neg c2] at H
  have c2b0 := decide_eq_false c2
  have c2b1 : decide (a0.size ≤ 60) = false := decide_eq_false (by omega)
  clear c2
  obtain rfl := Oi H
  go_enter Tryz.func54, Tryz.ntmps54
  go_wp2
  go_ret
  exact ⟨rfl, by repeat (first | exact HB.out | apply below_alloc | apply pw_below_drewN | apply below_drew1)⟩
def impl_IsBlank.f (a0 : Int) : Option (Bool) := if a0 = 9 then (some true) else (if a0 = 10 then (some true) else (if a0 = 12 then (some true) else (some (a0 == 32))))
theorem impl_IsBlank.calls (a0 : Int) (r : Bool) (w : World) (h : impl_IsBlank.f a0 = some r) :
 Calls Tryz.prog 104 #[.int .i64 a0] w fun e w' => e = .returned (.bool r) ∧ Drawn0 w w' := by
 have H : (if a0 = 9 then (some true) else (if a0 = 10 then (some true) else (if a0 = 12 then (some true) else (some (a0 == 32))))) = some r := h
 clear h
 by_cases c2 : a0 = 9
 ·rw [if_pos c2] at H
  have c2b0 := beq_iff_eq.mpr c2
  have c2b1 := bne_eq_false_iff_eq.mpr c2
  clear c2
  obtain rfl := Oi H
  go_enter Tryz.func104, Tryz.ntmps104
  go_wp2
  go_ret
  exact ⟨rfl, by repeat (first | exact Drawn0.refl _ | apply Drawn0.step)⟩
 ·rw [if_neg c2] at H
  have c2b0 := beq_eq_false_iff_ne.mpr c2
  have c2b1 := bne_iff_ne.mpr c2
  by_cases c3 : a0 = 10
  ·rw [if_pos c3] at H
   have c3b0 := beq_iff_eq.mpr c3
   have c3b1 := bne_eq_false_iff_eq.mpr c3
   clear c3
   obtain rfl := Oi H
   go_enter Tryz.func104, Tryz.ntmps104
   go_wp2
   go_ret
   exact ⟨rfl, by repeat (first | exact Drawn0.refl _ | apply Drawn0.step)⟩
  ·rw [if_neg c3] at H
   have c3b0 := beq_eq_false_iff_ne.mpr c3
   have c3b1 := bne_iff_ne.mpr c3
   by_cases c4 : a0 = 12
   ·rw [if_pos c4] at H
    have c4b0 := beq_iff_eq.mpr c4
    have c4b1 := bne_eq_false_iff_eq.mpr c4
    clear c4
    obtain rfl := Oi H
    go_enter Tryz.func104, Tryz.ntmps104
    go_wp2
    go_ret
    exact ⟨rfl, by repeat (first | exact Drawn0.refl _ | apply Drawn0.step)⟩
   ·rw [if_neg c4] at H
    have c4b0 := beq_eq_false_iff_ne.mpr c4
    have c4b1 := bne_iff_ne.mpr c4
    obtain rfl := Oi H
    go_enter Tryz.func104, Tryz.ntmps104
    go_wp2
    go_ret
    exact ⟨rfl, by repeat (first | exact Drawn0.refl _ | apply Drawn0.step)⟩
def impl_isOuter.f (a0 : Int) : Option (Bool) := (impl_IsBlank.f a0).bind fun t101 => (if t101 = true then (some true) else (if a0 = 47 then (some true) else (if a0 = 62 then (some true) else (if a0 = 0 then (some true) else ((impl_inRange.f a0 65 90).bind fun t102 => (some t102))))))
theorem impl_isOuter.calls (a0 : Int) (r : Bool) (w : World) (h : impl_isOuter.f a0 = some r) :
 Calls Tryz.prog 86 #[.int .i64 a0] w fun e w' => e = .returned (.bool r) ∧ Drawn0 w w' := by
 have H : ((impl_IsBlank.f a0).bind fun t101 => (if t101 = true then (some true) else (if a0 = 47 then (some true) else (if a0 = 62 then (some true) else (if a0 = 0 then (some true) else ((impl_inRange.f a0 65 90).bind fun t102 => (some t102))))))) = some r := h
 clear h
 replace H := Ob H
 obtain ⟨t101, A20, H⟩ := H
 replace H : (if t101 = true then (some true) else (if a0 = 47 then (some true) else (if a0 = 62 then (some true) else (if a0 = 0 then (some true) else ((impl_inRange.f a0 65 90).bind fun t102 => (some t102)))))) = some r := H
 have A2 := Ak A20
 clear A20
 by_cases c3 : t101 = true
 ·subst c3
  rw [if_pos rfl] at H
  obtain rfl := Oi H
  go_enter Tryz.func86, Tryz.ntmps86
  go_wp2_with (first | (go_at_call 104; (with_reducible refine (impl_IsBlank.calls a0 true _ A2.out).mono ?_); rintro e w' ⟨rfl, ⟨nd, rfl⟩⟩))
  go_ret
  exact ⟨rfl, by repeat (first | exact Drawn0.refl _ | apply Drawn0.step)⟩
 ·replace c3 := Bool.eq_false_iff.mpr c3
  subst c3
  rw [if_neg (show ¬ (false = true) by decide)] at H
  by_cases c4 : a0 = 47
  ·rw [if_pos c4] at H
   have c4b0 := beq_iff_eq.mpr c4
   have c4b1 := bne_eq_false_iff_eq.mpr c4
   clear c4
   obtain rfl := Oi H
   go_enter Tryz.func86, Tryz.ntmps86
   go_wp2_with (first | (go_at_call 104; (with_reducible refine (impl_IsBlank.calls a0 false _ A2.out).mono ?_); rintro e w' ⟨rfl, ⟨nd, rfl⟩⟩))
   go_ret
   exact ⟨rfl, by repeat (first | exact Drawn0.refl _ | apply Drawn0.step)⟩
  ·rw [if_neg c4] at H
   have c4b0 := beq_eq_false_iff_ne.mpr c4
   have c4b1 := bne_iff_ne.mpr c4
   by_cases c5 : a0 = 62
   ·rw [if_pos c5] at H
    have c5b0 := beq_iff_eq.mpr c5
    have c5b1 := bne_eq_false_iff_eq.mpr c5
    clear c5
    obtain rfl := Oi H
    go_enter Tryz.func86, Tryz.ntmps86
    go_wp2_with (first | (go_at_call 104; (with_reducible refine (impl_IsBlank.calls a0 false _ A2.out).mono ?_); rintro e w' ⟨rfl, ⟨nd, rfl⟩⟩))
    go_ret
    exact ⟨rfl, by repeat (first | exact Drawn0.refl _ | apply Drawn0.step)⟩
   ·rw [if_neg c5] at H
    have c5b0 := beq_eq_false_iff_ne.mpr c5
    have c5b1 := bne_iff_ne.mpr c5
    by_cases c6 : a0 = 0
    ·rw [if_pos c6] at H
     have c6b0 := beq_iff_eq.mpr c6
     have c6b1 := bne_eq_false_iff_eq.mpr c6
     clear c6
     obtain rfl := Oi H
     go_enter Tryz.func86, Tryz.ntmps86
     go_wp2_with (first | (go_at_call 104; (with_reducible refine (impl_IsBlank.calls a0 false _ A2.out).mono ?_); rintro e w' ⟨rfl, ⟨nd, rfl⟩⟩))
     go_ret
     exact ⟨rfl, by repeat (first | exact Drawn0.refl _ | apply Drawn0.step)⟩
    ·rw [if_neg c6] at H
     have c6b0 := beq_eq_false_iff_ne.mpr c6
     have c6b1 := bne_iff_ne.mpr c6
     replace H := Ob H
     obtain ⟨t102, A70, H⟩ := H
     replace H : (some t102) = some r := H
     have A7 := Ak A70
     clear A70
     obtain rfl := Oi H
     go_enter Tryz.func86, Tryz.ntmps86
     go_wp2_with (first | (go_at_call 104; (with_reducible refine (impl_IsBlank.calls a0 false _ A2.out).mono ?_); rintro e w' ⟨rfl, ⟨nd, rfl⟩⟩) | (go_at_call 30; (with_reducible refine (impl_inRange.calls a0 65 90 t102 _ A7.out).mono ?_); rintro e w' ⟨rfl, ⟨nd, rfl⟩⟩))
     go_ret
     exact ⟨rfl, by repeat (first | exact Drawn0.refl _ | apply Drawn0.step)⟩
mutual
def impl_NameOk.j0 : Nat → ByteArray → Bool → Option (Bool)
 | 0, _, _ => none
 | k + 1, x0, x23 => if x23 = true then (some false) else (if x0.size ≤ 140737488355328 then ((some (bytesOf x0 : List Int)).bind fun y103 => (impl_NameOk.l0 k y103 (y103.length : Int) 0)) else (none))
def impl_NameOk.l0 : Nat → List Int → Int → Int → Option (Bool)
 | 0, _, _, _ => none
 | k + 1, x25, x26, x27 => if x27 < x26 then (if 0 ≤ x27 then (if x27 < (x25.length : Int) then ((impl_isOuter.f (wrap64 (rd x25 x27))).bind fun t107 => (if t107 = true then (some false) else (impl_NameOk.l0 k x25 x26 (wrap64 (x27 + 1))))) else (none)) else (none)) else (some true)
end
def impl_NameOk.f (k : Nat) (a0 : ByteArray) : Option (Bool) := (impl_inRange.f (a0.size : Int) 1 60).bind fun t101 => (if t101 = true then (if 0 < (a0.size : Int) then (if (bt a0 0) < 97 then (impl_NameOk.j0 k a0 true) else (if (bt a0 0) > 122 then (impl_NameOk.j0 k a0 true) else ((impl_textOk.f k a0).bind fun t102 => (impl_NameOk.j0 k a0 (!t102))))) else (none)) else (impl_NameOk.j0 k a0 true))
theorem impl_NameOk.mono_l : ∀ k, (∀ y0 y1, LeO (impl_NameOk.j0 k y0 y1) (impl_NameOk.j0 (k + 1) y0 y1)) ∧ (∀ y0 y1 y2, LeO (impl_NameOk.l0 k y0 y1 y2) (impl_NameOk.l0 (k + 1) y0 y1 y2))
 | 0 => ⟨fun _ _ r h => by simp [impl_NameOk.j0] at h, fun _ _ _ r h => by simp [impl_NameOk.l0] at h⟩
 | k + 1 => by
  obtain ⟨ih0, ih1⟩ := impl_NameOk.mono_l k
  refine ⟨?_, ?_⟩
  ·intro y0 y1
   unfold impl_NameOk.j0
   repeat' (with_reducible first | exact ih0 _ _ | exact ih1 _ _ _ | exact impl_textOk.mono _ _ | exact LeO.refl _ | exact LeO.none _ | refine LeO.ite ?_ ?_ | refine LeO.bind ?_ (fun _ => ?_))
  ·intro y0 y1 y2
   unfold impl_NameOk.l0
   repeat' (with_reducible first | exact ih0 _ _ | exact ih1 _ _ _ | exact impl_textOk.mono _ _ | exact LeO.refl _ | exact LeO.none _ | refine LeO.ite ?_ ?_ | refine LeO.bind ?_ (fun _ => ?_))
theorem impl_NameOk.mono : ∀ a0 k, LeO (impl_NameOk.f k a0) (impl_NameOk.f (k + 1) a0) := by
 intro a0 k
 obtain ⟨ih0, ih1⟩ := impl_NameOk.mono_l k
 unfold impl_NameOk.f
 repeat' (with_reducible first | exact ih0 _ _ | exact ih1 _ _ _ | exact impl_textOk.mono _ _ | exact LeO.refl _ | exact LeO.none _ | refine LeO.ite ?_ ?_ | refine LeO.bind ?_ (fun _ => ?_))
theorem impl_NameOk.calls (k : Nat) (a0 : ByteArray) (r : Bool) (w : World) (h : impl_NameOk.f k a0 = some r) :
 Calls Tryz.prog 55 #[.string a0] w fun e w' => e = .returned (.bool r) ∧ Below w.heap.size w w' := by
 have HB := Ak (Below.refl w.heap.size w)
 have H : ((impl_inRange.f (a0.size : Int) 1 60).bind fun t101 => (if t101 = true then (if 0 < (a0.size : Int) then (if (bt a0 0) < 97 then (impl_NameOk.j0 k a0 true) else (if (bt a0 0) > 122 then (impl_NameOk.j0 k a0 true) else ((impl_textOk.f k a0).bind fun t102 => (impl_NameOk.j0 k a0 (!t102))))) else (none)) else (impl_NameOk.j0 k a0 true))) = some r := h
 clear h
 have HC2 := Ak H
 clear H
 go_enter Tryz.func55, Tryz.ntmps55
 go_upto_region 1 with (fail)
 go_cut [23] (fun v23 wc => ∃ (kq : Nat) (x23_1 : Bool), v23 = .bool x23_1 ∧ Aside0 (impl_NameOk.j0 kq a0 x23_1 = some r) ∧ Aside0 (kq ≤ k) ∧ Aside0 (Below w.heap.size w wc))
 case first =>
  have H := HC2.out
  clear HC2
  replace H := Ob H
  obtain ⟨t101, A30, H⟩ := H
  replace H : (if t101 = true then (if 0 < (a0.size : Int) then (if (bt a0 0) < 97 then (impl_NameOk.j0 k a0 true) else (if (bt a0 0) > 122 then (impl_NameOk.j0 k a0 true) else ((impl_textOk.f k a0).bind fun t102 => (impl_NameOk.j0 k a0 (!t102))))) else (none)) else (impl_NameOk.j0 k a0 true)) = some r := H
  have A3 := Ak A30
  clear A30
  by_cases c4 : t101 = true
  ·subst c4
   rw [if_pos rfl] at H
   by_cases c5 : 0 < (a0.size : Int)
   ·rw [if_pos c5] at H
    have c5b0 := decide_eq_true c5
    have c5b1 : decide (0 < a0.size) = true := decide_eq_true (by omega)
    clear c5
    (first | rw [c5b0] | (simp only [i64_w, i32_w]; rw [c5b0]) | skip)
    by_cases c7 : (bt a0 0) < 97
    ·rw [if_pos c7] at H
     have c7b0 := decide_eq_true c7
     clear c7
     have H' := Ak H
     clear H
     go_wp2_with (first | (go_at_call 30; (with_reducible refine (impl_inRange.calls (a0.size : Int) 1 60 true _ A3.out).mono ?_); rintro e w' ⟨rfl, ⟨nd, rfl⟩⟩; have p6 : 0 ≤ (0 : Int) := (by omega); have q6 : 0 < a0.size := (by have : (0 : Int) < (a0.size : Int) := of_decide_eq_true (by assumption); omega); have hx6 : ∀ h : 0 < a0.size, ((a0[0]'h).toNat : Int) = bt a0 0 := bt_at a0 0; clear p6; have qi6 : (0 < (a0.size : Int)) = True := eq_true (of_decide_eq_true (by assumption)); replace q6 := eq_true q6))
     go_meet
     case rel => exact ⟨_, (true), rfl, H', ⟨by first | omega | exact Nat.le_refl _⟩, ⟨by repeat (first | exact HB.out | apply below_alloc | apply pw_below_drewN | apply below_drew1)⟩⟩
    ·rw [if_neg c7] at H
     have c7b0 := decide_eq_false c7
     clear c7
     by_cases c9 : (bt a0 0) > 122
     ·rw [if_pos c9] at H
      have c9b0 : decide (122 < (bt a0 0)) = true := decide_eq_true c9
      clear c9
      have H' := Ak H
      clear H
      go_wp2_with (first | (go_at_call 30; (with_reducible refine (impl_inRange.calls (a0.size : Int) 1 60 true _ A3.out).mono ?_); rintro e w' ⟨rfl, ⟨nd, rfl⟩⟩; have p6 : 0 ≤ (0 : Int) := (by omega); have q6 : 0 < a0.size := (by have : (0 : Int) < (a0.size : Int) := of_decide_eq_true (by assumption); omega); have hx6 : ∀ h : 0 < a0.size, ((a0[0]'h).toNat : Int) = bt a0 0 := bt_at a0 0; clear p6; have qi6 : (0 < (a0.size : Int)) = True := eq_true (of_decide_eq_true (by assumption)); replace q6 := eq_true q6; have p8 : 0 ≤ (0 : Int) := (by omega); have q8 : 0 < a0.size := (by have : (0 : Int) < (a0.size : Int) := of_decide_eq_true (by assumption); omega); have hx8 : ∀ h : 0 < a0.size, ((a0[0]'h).toNat : Int) = bt a0 0 := bt_at a0 0; clear p8; have qi8 : (0 < (a0.size : Int)) = True := eq_true (of_decide_eq_true (by assumption)); replace q8 := eq_true q8))
      go_meet
      case rel => exact ⟨_, (true), rfl, H', ⟨by first | omega | exact Nat.le_refl _⟩, ⟨by repeat (first | exact HB.out | apply below_alloc | apply pw_below_drewN | apply below_drew1)⟩⟩
     ·rw [if_neg c9] at H
      have c9b0 : decide (122 < (bt a0 0)) = false := decide_eq_false c9
      clear c9
      replace H := Ob H
      obtain ⟨t102, A100, H⟩ := H
      replace H : (impl_NameOk.j0 k a0 (!t102)) = some r := H
      have A10 := Ak A100
      clear A100
      have H' := Ak H
      clear H
      go_wp2_with (first | (go_at_call 30; (with_reducible refine (impl_inRange.calls (a0.size : Int) 1 60 true _ A3.out).mono ?_); rintro e w' ⟨rfl, ⟨nd, rfl⟩⟩; have p6 : 0 ≤ (0 : Int) := (by omega); have q6 : 0 < a0.size := (by have : (0 : Int) < (a0.size : Int) := of_decide_eq_true (by assumption); omega); have hx6 : ∀ h : 0 < a0.size, ((a0[0]'h).toNat : Int) = bt a0 0 := bt_at a0 0; clear p6; have qi6 : (0 < (a0.size : Int)) = True := eq_true (of_decide_eq_true (by assumption)); replace q6 := eq_true q6; have p8 : 0 ≤ (0 : Int) := (by omega); have q8 : 0 < a0.size := (by have : (0 : Int) < (a0.size : Int) := of_decide_eq_true (by assumption); omega); have hx8 : ∀ h : 0 < a0.size, ((a0[0]'h).toNat : Int) = bt a0 0 := bt_at a0 0; clear p8; have qi8 : (0 < (a0.size : Int)) = True := eq_true (of_decide_eq_true (by assumption)); replace q8 := eq_true q8) | (go_at_call 57; (with_reducible refine (impl_textOk.calls k a0 t102 _ A10.out).mono ?_); rintro e w11 ⟨rfl, hb⟩; replace HB := Ak (below_step (by repeat (first | exact HB.out | apply below_alloc | apply pw_below_drewN | apply below_drew1)) hb); (try clear hb); (try clear hb2); (try clear hk); (try clear hi)))
      go_meet
      case rel => exact ⟨_, (!t102), rfl, H', ⟨by first | omega | exact Nat.le_refl _⟩, ⟨by repeat (first | exact HB.out | apply below_alloc | apply pw_below_drewN | apply below_drew1)⟩⟩
   ·rw [if_neg c5] at H
    exact absurd H (by simp)
  ·replace c4 := Bool.eq_false_iff.mpr c4
   subst c4
   rw [if_neg (show ¬ (false = true) by decide)] at H
   have H' := Ak H
   clear H
   go_wp2_with (first | (go_at_call 30; (with_reducible refine (impl_inRange.calls (a0.size : Int) 1 60 false _ A3.out).mono ?_); rintro e w' ⟨rfl, ⟨nd, rfl⟩⟩))
   go_meet
   case rel => exact ⟨_, (true), rfl, H', ⟨by first | omega | exact Nat.le_refl _⟩, ⟨by repeat (first | exact HB.out | apply below_alloc | apply pw_below_drewN | apply below_drew1)⟩⟩
 case rest =>
  clear HC2
  obtain ⟨kq, x23_1, rfl, HA, HJ1, HB⟩ := hcut
  cases kq with
  | zero => exact absurd HA.out (by simp [impl_NameOk.j0])
  | succ kj1 =>
   have H := HA.out
   clear HA
   simp only [impl_NameOk.j0] at H
   by_cases c12 : x23_1 = true
   ·subst c12
    rw [if_pos rfl] at H
    obtain rfl := Oi H
    go_wp2
    go_ret
    exact ⟨rfl, by repeat (first | exact HB.out | apply below_alloc | apply pw_below_drewN | apply below_drew1)⟩
   ·replace c12 := Bool.eq_false_iff.mpr c12
    subst c12
    rw [if_neg (show ¬ (false = true) by decide)] at H
    by_cases c13 : a0.size ≤ 140737488355328
    ·rw [if_pos c13] at H
     have c13b0 := eq_true c13
     have c13b1 := decide_eq_true c13
     clear c13
     obtain ⟨y103, hy103⟩ : ∃ y_ : List Int, y_ = (bytesOf a0) := ⟨_, rfl⟩
     replace H : (impl_NameOk.l0 kj1 y103 (y103.length : Int) 0) = some r := by rw [hy103]; exact H
     have Ny103 := Ak hy103
     clear hy103
     have H' := Ak H
     clear H
     go_wp2_with (first | ((with_reducible refine gate_dst (N := 25) rfl ?_); refine conv_V _ 5 rfl (N' := 25) rfl 9 33 _ rfl a0 rfl Tryz.underlying9 Tryz.underlying33 Tryz.underlying5 (of_decide_eq_true (by assumption) : a0.size ≤ 140737488355328) (ok := fun k_ => wc.heap.size ≤ k_) (Nat.le_refl _) (Below.refl _ _) (Nat.le_refl _) ?_; intro v104 w14 ho15 hb hg_ hnew_; clear hg_ hnew_; (first | rw [← Ny103.out] at ho15 | (simp only [Int.reduceToNat] at ho15; rw [← Ny103.out] at ho15)); replace HO105 := Ak (Kd.V_lower (Kd.V_mono (ok' := fun k_ => True) ho15 (fun k_ hk_ => trivial)) (below_size (by repeat (first | exact HB.out | apply below_alloc | apply pw_below_drewN | apply below_drew1)))); replace HB := Ak (below_step (by repeat (first | exact HB.out | apply below_alloc | apply pw_below_drewN | apply below_drew1)) hb); clear hb ho15; obtain ⟨Ao16, co16, eo16⟩ := Kd.V_slice HO105.out; subst eo16))
     go_loopg [27] kj1 (fun kq v27 w' => ∃ (x27_2 : Int), v27 = .int .i64 x27_2 ∧ Aside0 (impl_NameOk.l0 kq y103 (y103.length : Int) x27_2 = some r) ∧ Aside0 (kq ≤ kj1) ∧ Aside0 (Kd.V (Kd.int .u8) 5 w' w.heap.size (fun _ => True) (.slice Ao16 y103.length co16) y103) ∧ Aside0 (Below w.heap.size w w'))
     case atStart => exact ⟨(0), rfl, H', ⟨Nat.le_refl _⟩, ⟨by (with_reducible repeat (first | apply Kd.V_alloc | apply Kd.V_drewN | apply Kd.V_drew)); exact HO105.out⟩, ⟨by repeat (first | exact HB.out | apply below_alloc | apply pw_below_drewN | apply below_drew1)⟩⟩
     case round =>
      clear H'
      obtain ⟨x27_2, rfl, HA, HK2, HO_25, HB⟩ := hrel
      cases gk with
      | zero => exact absurd HA.out (by simp [impl_NameOk.l0])
      | succ k2 =>
       have H := HA.out
       clear HA
       simp only [impl_NameOk.l0] at H
       by_cases c17 : x27_2 < (y103.length : Int)
       ·rw [if_pos c17] at H
        have c17b0 := decide_eq_true c17
        clear c17
        by_cases c18 : 0 ≤ x27_2
        ·rw [if_pos c18] at H
         have c18b0 := decide_eq_true c18
         clear c18
         by_cases c19 : x27_2 < (y103.length : Int)
         ·rw [if_pos c19] at H
          have c19b0 := decide_eq_true c19
          clear c19
          replace H := Ob H
          obtain ⟨t107, A200, H⟩ := H
          replace H : (if t107 = true then (some false) else (impl_NameOk.l0 k2 y103 (y103.length : Int) (wrap64 (x27_2 + 1)))) = some r := H
          have A20 := Ak A200
          clear A200
          by_cases c21 : t107 = true
          ·subst c21
           rw [if_pos rfl] at H
           obtain rfl := Oi H
           have p106 : 0 ≤ (x27_2 : Int) := of_decide_eq_true (by assumption)
           have q106 : x27_2 < (y103.length : Int) := of_decide_eq_true (by assumption)
           obtain ⟨ad106, e106, hx106_0⟩ := Kd.at_int (Kd.V_reads' HO_25.out).2.2 x27_2 p106 q106
           cases e106
           replace p106 := eq_true p106
           replace q106 := eq_true q106
           go_wp2_with (first | (go_at_call 86; (with_reducible refine (impl_isOuter.calls (wrap64 (rd y103 x27_2)) true _ A20.out).mono ?_); rintro e w' ⟨rfl, ⟨nd, rfl⟩⟩))
           go_ret
           exact ⟨rfl, by repeat (first | exact HB.out | apply below_alloc | apply pw_below_drewN | apply below_drew1)⟩
          ·replace c21 := Bool.eq_false_iff.mpr c21
           subst c21
           rw [if_neg (show ¬ (false = true) by decide)] at H
           have H' := Ak H
           clear H
           have p106 : 0 ≤ (x27_2 : Int) := of_decide_eq_true (by assumption)
           have q106 : x27_2 < (y103.length : Int) := of_decide_eq_true (by assumption)
           obtain ⟨ad106, e106, hx106_0⟩ := Kd.at_int (Kd.V_reads' HO_25.out).2.2 x27_2 p106 q106
           cases e106
           replace p106 := eq_true p106
           replace q106 := eq_true q106
           go_wp2_with (first | (go_at_call 86; (with_reducible refine (impl_isOuter.calls (wrap64 (rd y103 x27_2)) false _ A20.out).mono ?_); rintro e w' ⟨rfl, ⟨nd, rfl⟩⟩))
           go_roundg k2
           case measure => have := HJ1.out; have := HK2.out; omega
           case rel => exact ⟨(wrap64 (x27_2 + 1)), rfl, H', ⟨by have := HJ1.out; have := HK2.out; omega⟩, ⟨by (with_reducible repeat (first | apply Kd.V_alloc | apply Kd.V_drewN | apply Kd.V_drew)); exact HO_25.out⟩, ⟨by repeat (first | exact HB.out | apply below_alloc | apply pw_below_drewN | apply below_drew1)⟩⟩
         ·rw [if_neg c19] at H
          exact absurd H (by simp)
        ·rw [if_neg c18] at H
         exact absurd H (by simp)
       ·rw [if_neg c17] at H
        have c17b0 := decide_eq_false c17
        clear c17
        obtain rfl := Oi H
        go_wp2
        go_ret
        exact ⟨rfl, by repeat (first | exact HB.out | apply below_alloc | apply pw_below_drewN | apply below_drew1)⟩
    ·rw [if_neg c13] at H
     exact absurd H (by simp)
def impl_attrAt.l0 : Nat → List (S72) → ByteArray → Int → Option (Int)
 | 0, _, _, _ => none
 | k + 1, x0, x1, x6 => if x6 < (x0.length : Int) then (if 0 ≤ x6 then (if ((rd_T72 x0 x6).f0).toList = x1.toList then (some x6) else (impl_attrAt.l0 k x0 x1 (wrap64 (x6 + 1)))) else (none)) else (some (-1))
def impl_attrAt.f (k : Nat) (l0 : List (S72)) (a1 : ByteArray) : Option (Int) := impl_attrAt.l0 k l0 a1 0
theorem impl_attrAt.mono_l : ∀ k, (∀ y0 y1 y2, LeO (impl_attrAt.l0 k y0 y1 y2) (impl_attrAt.l0 (k + 1) y0 y1 y2))
 | 0 => fun _ _ _ r h => by simp [impl_attrAt.l0] at h
 | k + 1 => by
  have ih0 := impl_attrAt.mono_l k
  ·intro y0 y1 y2
   unfold impl_attrAt.l0
   repeat' (with_reducible first | exact ih0 _ _ _ | exact LeO.refl _ | exact LeO.none _ | refine LeO.ite ?_ ?_)
theorem impl_attrAt.mono : ∀ a0 a1 k, LeO (impl_attrAt.f k a0 a1) (impl_attrAt.f (k + 1) a0 a1) := fun a0 a1 k => impl_attrAt.mono_l k a0 a1 0
theorem impl_attrAt.one (x : S72) (s : ByteArray) (B : Nat) (W : World) (hB : B < W.heap.size) (hc : W.cell? ⟨B, 0, none⟩ = some (.string s)) :
 Calls Tryz.prog 106 #[.agg #[.string x.f0, .string x.f1], .pointer (some ⟨B, 0, none⟩)] W fun e w' => e = .returned (.bool (x.f0.toList == s.toList)) ∧ Below W.heap.size W w' := by
 have hne : B ≠ W.heap.size := by omega
 go_enter Tryz.func106, Tryz.ntmps106
 go_wp2
 go_ret
 exact ⟨rfl, (Below.refl _ _).alloc (Nat.le_refl _) _⟩
theorem impl_attrAt.search (k : Nat) (A0 : Option Addr) (c0 : Nat) (l0 : List (S72)) (a1 : ByteArray) (B : Nat) (r : Int) (w : World) (hr0 : Kd.C k72 w A0 l0.length l0) (hc0 : l0.length ≤ c0) (hB : B < w.heap.size) (hc : w.cell? ⟨B, 0, none⟩ = some (.string a1)) (h : impl_attrAt.l0 k l0 a1 0 = some r) :
 Calls Tryz.prog 105 #[.slice A0 l0.length c0, .func (.func 106) #[] #[.pointer (some ⟨B, 0, none⟩)]] w fun e w' => e = .returned (.int .i64 r) ∧ Below w.heap.size w w' := by
 have HR0 := Ak hr0
 have HC0 := Ak hc0
 clear hr0 hc0
 have HBs := Ak hB
 have HCc := Ak hc
 clear hB hc
 have HB := Ak (Below.refl w.heap.size w)
 have H' := Ak h
 clear h
 have eg : ∀ args w, (callFunc 106 args).run Tryz.prog w = .ok (.enter 106 args) w := Go.Proofs.enters_of Tryz.func106 (by kernel_rfl) rfl
 go_enter Tryz.func105, Tryz.ntmps105
 go_wp2
 go_loopg [8] k (fun kq v8 w' => ∃ (x8_1 : Int), v8 = .int .i64 x8_1 ∧ Aside0 (impl_attrAt.l0 kq l0 a1 x8_1 = some r) ∧ Aside0 (kq ≤ k) ∧ Aside0 (Below w.heap.size w w'))
 case atStart => exact ⟨(0), rfl, H', ⟨Nat.le_refl _⟩, HB⟩
 case round =>
  clear H'
  obtain ⟨x8_1, rfl, HA, HK1, HB⟩ := hrel
  cases gk with
  | zero => exact absurd HA.out (by simp [impl_attrAt.l0])
  | succ k1 =>
   have H := HA.out
   clear HA
   simp only [impl_attrAt.l0] at H
   by_cases c3 : x8_1 < (l0.length : Int)
   ·rw [if_pos c3] at H
    have c3b0 := decide_eq_true c3
    by_cases c4 : 0 ≤ x8_1
    ·rw [if_pos c4] at H
     have c4b0 := decide_eq_true c4
     obtain ⟨ad, e_, hx_0, hx_1⟩ := at_T72 (Kd.C_below HR0.out HB.out) x8_1 c4 c3
     cases e_
     have hb8 := Ak (impl_attrAt.one (rd_T72 l0 x8_1) a1 B wr (Nat.lt_of_lt_of_le HBs.out HB.out.size) ((HB.out.cell (p := ⟨B, 0, none⟩) HBs.out).trans HCc.out))
     have p3 := eq_true c4
     have q3 := eq_true c3
     clear c3 c4
     by_cases c5 : ((rd_T72 l0 x8_1).f0).toList = a1.toList
     ·rw [if_pos c5] at H
      have c5b0 := beq_iff_eq.mpr c5
      clear c5
      obtain rfl := Oi H
      have hb9 := Ak (show Calls Tryz.prog 106 #[.agg #[.string (rd_T72 l0 x8_1).f0, .string (rd_T72 l0 x8_1).f1], .pointer (some ⟨B, 0, none⟩)] wr fun e w' => e = .returned (.bool true) ∧ Below wr.heap.size wr w' from by rw [← c5b0]; exact hb8.out)
      go_wp2_with (go_at_fn 106; refine hb9.out.mono ?_; rintro e w' ⟨rfl, hb'⟩; have n_ := Ak (below_step HB.out hb'); clear HB hb'; have HB := n_; clear n_)
      go_ret
      exact ⟨rfl, HB.out⟩
     ·rw [if_neg c5] at H
      have c5b0 := beq_eq_false_iff_ne.mpr c5
      clear c5
      have H' := Ak H
      clear H
      have hb9 := Ak (show Calls Tryz.prog 106 #[.agg #[.string (rd_T72 l0 x8_1).f0, .string (rd_T72 l0 x8_1).f1], .pointer (some ⟨B, 0, none⟩)] wr fun e w' => e = .returned (.bool false) ∧ Below wr.heap.size wr w' from by rw [← c5b0]; exact hb8.out)
      go_wp2_with (go_at_fn 106; refine hb9.out.mono ?_; rintro e w' ⟨rfl, hb'⟩; have n_ := Ak (below_step HB.out hb'); clear HB hb'; have HB := n_; clear n_)
      go_roundg k1
      case measure => have := HK1.out; omega
      case rel => exact ⟨(wrap64 (x8_1 + 1)), rfl, H', ⟨by have := HK1.out; omega⟩, HB⟩
    ·rw [if_neg c4] at H
     exact absurd H (by simp)
   ·rw [if_neg c3] at H
    have c3b0 := decide_eq_false c3
    clear c3
    obtain rfl := Oi H
    go_wp2
    go_ret
    exact ⟨rfl, HB.out⟩
theorem impl_attrAt.calls (k : Nat) (A0 : Option Addr) (c0 : Nat) (l0 : List (S72)) (a1 : ByteArray) (r : Int) (w : World) (hr0 : Kd.C k72 w A0 l0.length l0) (hc0 : l0.length ≤ c0) (h : impl_attrAt.f k l0 a1 = some r) :
 Calls Tryz.prog 87 #[.slice A0 l0.length c0, .string a1] w fun e w' => e = .returned (.int .i64 r) ∧ Below w.heap.size w w' := by
 have C8 := Ak (impl_attrAt.search k A0 c0 l0 a1 w.heap.size r (w.alloc (.cells #[.string a1] 9)) (Kd.C_alloc hr0 _) hc0 (by simp) (by simp) h)
 clear hr0 hc0 h
 go_enter Tryz.func87, Tryz.ntmps87
 go_wp2_with (go_at_call 105; refine C8.out.mono ?_; rintro e w' ⟨rfl, hb'⟩)
 go_ret
 exact ⟨rfl, below_step ((Below.refl _ w).alloc (Nat.le_refl _) _) hb'⟩
def impl_attrOk.f (k : Nat) (a0_0 : ByteArray) (a0_1 : ByteArray) : Option (Bool) := (impl_inRange.f (a0_0.size : Int) 1 60).bind fun t102 => (if t102 = true then (if (a0_1.size : Int) ≤ 3000 then ((impl_textOk.f k a0_0).bind fun t103 => (if t103 = true then ((impl_textOk.f k a0_1).bind fun t104 => (some t104)) else (some false))) else (some false)) else (some false))
theorem impl_attrOk.mono : ∀ a0 a1 k, LeO (impl_attrOk.f k a0 a1) (impl_attrOk.f (k + 1) a0 a1) := by
 intro a0 a1 k
 unfold impl_attrOk.f
 repeat' (with_reducible first | exact impl_textOk.mono _ _ | exact LeO.refl _ | exact LeO.none _ | refine LeO.ite ?_ ?_ | refine LeO.bind ?_ (fun _ => ?_))
theorem impl_attrOk.calls (k : Nat) (a0_0 : ByteArray) (a0_1 : ByteArray) (r : Bool) (w : World) (h : impl_attrOk.f k a0_0 a0_1 = some r) :
 Calls Tryz.prog 88 #[.agg #[.string a0_0, .string a0_1]] w fun e w' => e = .returned (.bool r) ∧ Below w.heap.size w w' := by
 have hu72 := Tryz.underlying72
 have HB := Ak (Below.refl w.heap.size w)
 have H : ((impl_inRange.f (a0_0.size : Int) 1 60).bind fun t102 => (if t102 = true then (if (a0_1.size : Int) ≤ 3000 then ((impl_textOk.f k a0_0).bind fun t103 => (if t103 = true then ((impl_textOk.f k a0_1).bind fun t104 => (some t104)) else (some false))) else (some false)) else (some false))) = some r := h
 clear h
 replace H := Ob H
 obtain ⟨t102, A20, H⟩ := H
 replace H : (if t102 = true then (if (a0_1.size : Int) ≤ 3000 then ((impl_textOk.f k a0_0).bind fun t103 => (if t103 = true then ((impl_textOk.f k a0_1).bind fun t104 => (some t104)) else (some false))) else (some false)) else (some false)) = some r := H
 have A2 := Ak A20
 clear A20
 by_cases c3 : t102 = true
 ·subst c3
  rw [if_pos rfl] at H
  by_cases c4 : (a0_1.size : Int) ≤ 3000
  ·rw [if_pos c4] at H
   have c4b0 := decide_eq_true c4
   have c4b1 : decide (a0_1.size ≤ 3000) = true := decide_eq_true (by omega)
   clear c4
   replace H := Ob H
   obtain ⟨t103, A50, H⟩ := H
   replace H : (if t103 = true then ((impl_textOk.f k a0_1).bind fun t104 => (some t104)) else (some false)) = some r := H
   have A5 := Ak A50
   clear A50
   by_cases c6 : t103 = true
   ·subst c6
    rw [if_pos rfl] at H
    replace H := Ob H
    obtain ⟨t104, A70, H⟩ := H
    replace H : (some t104) = some r := H
    have A7 := Ak A70
    clear A70
    obtain rfl := Oi H
    go_enter Tryz.func88, Tryz.ntmps88
    go_wp2_with (first | ((with_reducible refine gate_dst (N := 1) rfl ?_); (try (refine gate_guard (by rfl) ?_; dsimp only)); refine box_event ?hg (N := 1) ?hd (cs := #[.string a0_0, .string a0_1]) (t := 72) ?hr ?_; (case hd => rfl); (case hg => rfl); (case hr => go_simp); intro gb101 hg w8 hbox hb; have n0_ := Ak (below_step (HB.out) hb); have n1_ := Ak (hbox); have n2_ := Ak ((by rw [hg]; exact (below_size (HB.out)) : w.heap.size ≤ gb101)); have n3_ := n2_; clear HB; have HB := n0_; have BK101 := n1_; have GW101 := n2_; have GE101 := n3_; clear n0_ n1_ n2_ n3_; clear hb hbox hg; have hcz9_0 := blk_cell BK101.out 0; have hcz9_1 := blk_cell BK101.out 1; have hfz9_0 := blk_frozen BK101.out 0; have hfz9_1 := blk_frozen BK101.out 1) | (go_at_call 30; (with_reducible refine (impl_inRange.calls (a0_0.size : Int) 1 60 true _ A2.out).mono ?_); rintro e w' ⟨rfl, ⟨nd, rfl⟩⟩) | (go_at_call 57; (with_reducible refine (impl_textOk.calls k a0_0 true _ A5.out).mono ?_); rintro e w10 ⟨rfl, hb⟩; replace BK101 := Ak (blk_below (g := gb101) (o := .cells #[.string a0_0, .string a0_1] 72 (0, 0)) (by (with_reducible repeat (first | refine blk_drewN ?_ _ | refine blk_drew ?_ | refine blk_alloc ?_ _)); exact BK101.out) hb); replace HB := Ak (below_step (by repeat (first | exact HB.out | apply below_alloc | apply pw_below_drewN | apply below_drew1 | refine below_set ?_ GE101.out)) hb); (try clear hb); have hcz11_0 := blk_cell BK101.out 0; have hcz11_1 := blk_cell BK101.out 1; have hfz11_0 := blk_frozen BK101.out 0; have hfz11_1 := blk_frozen BK101.out 1) | (go_at_call 57; (with_reducible refine (impl_textOk.calls k a0_1 t104 _ A7.out).mono ?_); rintro e w12 ⟨rfl, hb⟩; replace BK101 := Ak (blk_below (g := gb101) (o := .cells #[.string a0_0, .string a0_1] 72 (0, 0)) (by (with_reducible repeat (first | refine blk_drewN ?_ _ | refine blk_drew ?_ | refine blk_alloc ?_ _)); exact BK101.out) hb); replace HB := Ak (below_step (by repeat (first | exact HB.out | apply below_alloc | apply pw_below_drewN | apply below_drew1 | refine below_set ?_ GE101.out)) hb); (try clear hb)))
    go_ret
    exact ⟨rfl, by repeat (first | exact HB.out | apply below_alloc | apply pw_below_drewN | apply below_drew1 | refine below_set ?_ GE101.out)⟩
   ·replace c6 := Bool.eq_false_iff.mpr c6
    subst c6
    rw [if_neg (show ¬ (false = true) by decide)] at H
    obtain rfl := Oi H
    go_enter Tryz.func88, Tryz.ntmps88
    go_wp2_with (first | ((with_reducible refine gate_dst (N := 1) rfl ?_); (try (refine gate_guard (by rfl) ?_; dsimp only)); refine box_event ?hg (N := 1) ?hd (cs := #[.string a0_0, .string a0_1]) (t := 72) ?hr ?_; (case hd => rfl); (case hg => rfl); (case hr => go_simp); intro gb101 hg w13 hbox hb; have n0_ := Ak (below_step (HB.out) hb); have n1_ := Ak (hbox); have n2_ := Ak ((by rw [hg]; exact (below_size (HB.out)) : w.heap.size ≤ gb101)); have n3_ := n2_; clear HB; have HB := n0_; have BK101 := n1_; have GW101 := n2_; have GE101 := n3_; clear n0_ n1_ n2_ n3_; clear hb hbox hg; have hcz14_0 := blk_cell BK101.out 0; have hcz14_1 := blk_cell BK101.out 1; have hfz14_0 := blk_frozen BK101.out 0; have hfz14_1 := blk_frozen BK101.out 1) | (go_at_call 30; (with_reducible refine (impl_inRange.calls (a0_0.size : Int) 1 60 true _ A2.out).mono ?_); rintro e w' ⟨rfl, ⟨nd, rfl⟩⟩) | (go_at_call 57; (with_reducible refine (impl_textOk.calls k a0_0 false _ A5.out).mono ?_); rintro e w15 ⟨rfl, hb⟩; replace BK101 := Ak (blk_below (g := gb101) (o := .cells #[.string a0_0, .string a0_1] 72 (0, 0)) (by (with_reducible repeat (first | refine blk_drewN ?_ _ | refine blk_drew ?_ | refine blk_alloc ?_ _)); exact BK101.out) hb); replace HB := Ak (below_step (by repeat (first | exact HB.out | apply below_alloc | apply pw_below_drewN | apply below_drew1 | refine below_set ?_ GE101.out)) hb); (try clear hb)))
    go_ret
    exact ⟨rfl, by repeat (first | exact HB.out | apply below_alloc | apply pw_below_drewN | apply below_drew1 | refine below_set ?_ GE101.out)⟩
  ·rw [if_neg c4] at H
   have c4b0 := decide_eq_false c4
   have c4b1 : decide (a0_1.size ≤ 3000) = false := decide_eq_false (by omega)
   clear c4
   obtain rfl := Oi H
   go_enter Tryz.func88, Tryz.ntmps88
   go_wp2_with (first | ((with_reducible refine gate_dst (N := 1) rfl ?_); (try (refine gate_guard (by rfl) ?_; dsimp only)); refine box_event ?hg (N := 1) ?hd (cs := #[.string a0_0, .string a0_1]) (t := 72) ?hr ?_; (case hd => rfl); (case hg => rfl); (case hr => go_simp); intro gb101 hg w16 hbox hb; have n0_ := Ak (below_step (HB.out) hb); have n1_ := Ak (hbox); have n2_ := Ak ((by rw [hg]; exact (below_size (HB.out)) : w.heap.size ≤ gb101)); have n3_ := n2_; clear HB; have HB := n0_; have BK101 := n1_; have GW101 := n2_; have GE101 := n3_; clear n0_ n1_ n2_ n3_; clear hb hbox hg; have hcz17_0 := blk_cell BK101.out 0; have hcz17_1 := blk_cell BK101.out 1; have hfz17_0 := blk_frozen BK101.out 0; have hfz17_1 := blk_frozen BK101.out 1) | (go_at_call 30; (with_reducible refine (impl_inRange.calls (a0_0.size : Int) 1 60 true _ A2.out).mono ?_); rintro e w' ⟨rfl, ⟨nd, rfl⟩⟩))
   go_ret
   exact ⟨rfl, by repeat (first | exact HB.out | apply below_alloc | apply pw_below_drewN | apply below_drew1 | refine below_set ?_ GE101.out)⟩
 ·replace c3 := Bool.eq_false_iff.mpr c3
  subst c3
  rw [if_neg (show ¬ (false = true) by decide)] at H
  obtain rfl := Oi H
  go_enter Tryz.func88, Tryz.ntmps88
  go_wp2_with (first | ((with_reducible refine gate_dst (N := 1) rfl ?_); (try (refine gate_guard (by rfl) ?_; dsimp only)); refine box_event ?hg (N := 1) ?hd (cs := #[.string a0_0, .string a0_1]) (t := 72) ?hr ?_; (case hd => rfl); (case hg => rfl); (case hr => go_simp); intro gb101 hg w18 hbox hb; have n0_ := Ak (below_step (HB.out) hb); have n1_ := Ak (hbox); have n2_ := Ak ((by rw [hg]; exact (below_size (HB.out)) : w.heap.size ≤ gb101)); have n3_ := n2_; clear HB; have HB := n0_; have BK101 := n1_; have GW101 := n2_; have GE101 := n3_; clear n0_ n1_ n2_ n3_; clear hb hbox hg; have hcz19_0 := blk_cell BK101.out 0; have hcz19_1 := blk_cell BK101.out 1; have hfz19_0 := blk_frozen BK101.out 0; have hfz19_1 := blk_frozen BK101.out 1) | (go_at_call 30; (with_reducible refine (impl_inRange.calls (a0_0.size : Int) 1 60 false _ A2.out).mono ?_); rintro e w' ⟨rfl, ⟨nd, rfl⟩⟩))
  go_ret
  exact ⟨rfl, by repeat (first | exact HB.out | apply below_alloc | apply pw_below_drewN | apply below_drew1 | refine below_set ?_ GE101.out)⟩
def impl_AttrsOk.l0 : Nat → List (S72) → List (S72) → Int → Int → Option (Bool)
 | 0, _, _, _, _ => none
 | k + 1, x0, x8, x9, x10 => if x10 < x9 then (if 0 ≤ x10 then (if x10 < (x8.length : Int) then ((impl_attrAt.f k x0 ((rd_T72 x8 x10).f0)).bind fun t103 => (if t103 = x10 then ((impl_attrOk.f k ((rd_T72 x8 x10).f0) ((rd_T72 x8 x10).f1)).bind fun t104 => (if t104 = true then (impl_AttrsOk.l0 k x0 x8 x9 (wrap64 (x10 + 1))) else (some false))) else (some false))) else (none)) else (none)) else (some true)
def impl_AttrsOk.f (k : Nat) (l0 : List (S72)) : Option (Bool) := if (l0.length : Int) > 20 then (some false) else (impl_AttrsOk.l0 k l0 l0 (l0.length : Int) 0)
theorem impl_AttrsOk.mono_l : ∀ k, (∀ y0 y1 y2 y3, LeO (impl_AttrsOk.l0 k y0 y1 y2 y3) (impl_AttrsOk.l0 (k + 1) y0 y1 y2 y3))
 | 0 => fun _ _ _ _ r h => by simp [impl_AttrsOk.l0] at h
 | k + 1 => by
  have ih0 := impl_AttrsOk.mono_l k
  ·intro y0 y1 y2 y3
   unfold impl_AttrsOk.l0
   repeat' (with_reducible first | exact ih0 _ _ _ _ | exact impl_attrAt.mono _ _ _ | exact impl_attrOk.mono _ _ _ | exact LeO.refl _ | exact LeO.none _ | refine LeO.ite ?_ ?_ | refine LeO.bind ?_ (fun _ => ?_))
theorem impl_AttrsOk.mono : ∀ a0 k, LeO (impl_AttrsOk.f k a0) (impl_AttrsOk.f (k + 1) a0) := by
 intro a0 k
 have ih0 := impl_AttrsOk.mono_l k
 unfold impl_AttrsOk.f
 repeat' (with_reducible first | exact ih0 _ _ _ _ | exact impl_attrAt.mono _ _ _ | exact impl_attrOk.mono _ _ _ | exact LeO.refl _ | exact LeO.none _ | refine LeO.ite ?_ ?_ | refine LeO.bind ?_ (fun _ => ?_))
theorem impl_AttrsOk.calls (k : Nat) (A0 : Option Addr) (c0 : Nat) (l0 : List (S72)) (r : Bool) (w : World) (hr0 : Kd.C k72 w A0 l0.length l0) (hc0 : l0.length ≤ c0) (h : impl_AttrsOk.f k l0 = some r) :
 Calls Tryz.prog 56 #[.slice A0 l0.length c0] w fun e w' => e = .returned (.bool r) ∧ Below w.heap.size w w' := by
 have hu72 := Tryz.underlying72
 have HR0 := Ak hr0
 have HC0 := Ak hc0
 clear hr0 hc0
 have HB := Ak (Below.refl w.heap.size w)
 have H : (if (l0.length : Int) > 20 then (some false) else (impl_AttrsOk.l0 k l0 l0 (l0.length : Int) 0)) = some r := h
 clear h
 by_cases c2 : (l0.length : Int) > 20
 ·rw [if_pos c2] at H
  have c2b0 : decide (20 < (l0.length : Int)) = true := decide_eq_true c2
  have c2b1 : decide (20 < l0.length) = true := decide_eq_true (by omega)
  clear c2
  obtain rfl := Oi H
  go_enter Tryz.func56, Tryz.ntmps56
  go_wp2
  go_ret
  exact ⟨rfl, HB.out⟩
 ·rw [if_neg c2] at H
  have c2b0 : decide (20 < (l0.length : Int)) = false := decide_eq_false c2
  have c2b1 : decide (20 < l0.length) = false := decide_eq_false (by omega)
  clear c2
  have H' := Ak H
  clear H
  go_enter Tryz.func56, Tryz.ntmps56
  go_wp2
  go_loopg [10] k (fun kq v10 w' => ∃ (x10_1 : Int), v10 = .int .i64 x10_1 ∧ Aside0 (impl_AttrsOk.l0 kq l0 l0 (l0.length : Int) x10_1 = some r) ∧ Aside0 (kq ≤ k) ∧ Aside0 (Below w.heap.size w w'))
  case atStart => exact ⟨(0), rfl, H', ⟨Nat.le_refl _⟩, ⟨HB.out⟩⟩
  case round =>
   clear H'
   obtain ⟨x10_1, rfl, HA, HK1, HB⟩ := hrel
   cases gk with
   | zero => exact absurd HA.out (by simp [impl_AttrsOk.l0])
   | succ k1 =>
    have H := HA.out
    clear HA
    simp only [impl_AttrsOk.l0] at H
    by_cases c3 : x10_1 < (l0.length : Int)
    ·rw [if_pos c3] at H
     have c3b0 := decide_eq_true c3
     clear c3
     by_cases c4 : 0 ≤ x10_1
     ·rw [if_pos c4] at H
      have c4b0 := decide_eq_true c4
      clear c4
      by_cases c5 : x10_1 < (l0.length : Int)
      ·rw [if_pos c5] at H
       have c5b0 := decide_eq_true c5
       clear c5
       replace H := Ob H
       obtain ⟨t103, A60, H⟩ := H
       replace H : (if t103 = x10_1 then ((impl_attrOk.f k1 ((rd_T72 l0 x10_1).f0) ((rd_T72 l0 x10_1).f1)).bind fun t104 => (if t104 = true then (impl_AttrsOk.l0 k1 l0 l0 (l0.length : Int) (wrap64 (x10_1 + 1))) else (some false))) else (some false)) = some r := H
       have A6 := Ak A60
       clear A60
       by_cases c7 : t103 = x10_1
       ·rw [if_pos c7] at H
        have c7b0 := beq_iff_eq.mpr c7
        have c7b1 := bne_eq_false_iff_eq.mpr c7
        clear c7
        replace H := Ob H
        obtain ⟨t104, A80, H⟩ := H
        replace H : (if t104 = true then (impl_AttrsOk.l0 k1 l0 l0 (l0.length : Int) (wrap64 (x10_1 + 1))) else (some false)) = some r := H
        have A8 := Ak A80
        clear A80
        by_cases c9 : t104 = true
        ·subst c9
         rw [if_pos rfl] at H
         have H' := Ak H
         clear H
         have p101 : 0 ≤ (x10_1 : Int) := of_decide_eq_true (by assumption)
         have q101 : x10_1 < (l0.length : Int) := of_decide_eq_true (by assumption)
         obtain ⟨ad101, e101, hx101_0, hx101_1⟩ := at_T72 HR0.out x10_1 p101 q101
         cases e101
         replace hx101_0 := pw_cell_below HB.out hx101_0
         replace hx101_1 := pw_cell_below HB.out hx101_1
         replace p101 := eq_true p101
         replace q101 := eq_true q101
         go_wp2_with (first | ((with_reducible refine gate_dst (N := 4) rfl ?_); refine box_event ?hg (N := 4) ?hd (cs := #[.string (⟨#[]⟩ : ByteArray), .string (⟨#[]⟩ : ByteArray)]) (t := 72) ?hr ?_; (case hd => rfl); (case hg => rfl); (case hr => go_simp); intro gb102 hg w10 hbox hb; have n0_ := Ak (below_step (HB.out) hb); have n1_ := Ak (hbox); have n2_ := Ak ((by rw [hg]; exact (below_size (HB.out)) : w.heap.size ≤ gb102)); have n3_ := n2_; clear HB; have HB := n0_; have BK102 := n1_; have GW102 := n2_; have GE102 := n3_; clear n0_ n1_ n2_ n3_; clear hb hbox hg; have hcz11_0 := blk_cell BK102.out 0; have hcz11_1 := blk_cell BK102.out 1; have hfz11_0 := blk_frozen BK102.out 0; have hfz11_1 := blk_frozen BK102.out 1) | (go_at_call 87; (with_reducible refine (impl_attrAt.calls k1 _ _ l0 ((rd_T72 l0 x10_1).f0) t103 _ ?side1 ?side2 A6.out).mono ?_); (case side1 => exact Kd.C_below HR0.out (by repeat (first | exact HB.out | apply below_alloc | apply pw_below_drewN | apply below_drew1 | refine below_set ?_ GE102.out))); (case side2 => exact HC0.out); rintro e w12 ⟨rfl, hb⟩; replace BK102 := Ak (blk_below (g := gb102) (o := .cells #[.string ((rd_T72 l0 x10_1).f0), .string ((rd_T72 l0 x10_1).f1)] 72 (0, 0)) (by (with_reducible repeat (first | refine blk_drewN ?_ _ | refine blk_drew ?_ | refine blk_alloc ?_ _)); refine blk_put (cs := #[.string ((rd_T72 l0 x10_1).f0), .string (⟨#[]⟩ : ByteArray)]) ?_ 1 _ rfl; (with_reducible repeat (first | refine blk_drewN ?_ _ | refine blk_drew ?_ | refine blk_alloc ?_ _)); refine blk_put (cs := #[.string (⟨#[]⟩ : ByteArray), .string (⟨#[]⟩ : ByteArray)]) ?_ 0 _ rfl; (with_reducible repeat (first | refine blk_drewN ?_ _ | refine blk_drew ?_ | refine blk_alloc ?_ _)); exact BK102.out) hb); replace HB := Ak (below_step (by repeat (first | exact HB.out | apply below_alloc | apply pw_below_drewN | apply below_drew1 | refine below_set ?_ GE102.out)) hb); (try clear hb); have hcz13_0 := blk_cell BK102.out 0; have hcz13_1 := blk_cell BK102.out 1; have hfz13_0 := blk_frozen BK102.out 0; have hfz13_1 := blk_frozen BK102.out 1) | (go_at_call 88; (with_reducible refine (impl_attrOk.calls k1 ((rd_T72 l0 x10_1).f0) ((rd_T72 l0 x10_1).f1) true _ A8.out).mono ?_); rintro e w14 ⟨rfl, hb⟩; replace BK102 := Ak (blk_below BK102.out hb); replace HB := Ak (below_step (by repeat (first | exact HB.out | apply below_alloc | apply pw_below_drewN | apply below_drew1 | refine below_set ?_ GE102.out)) hb); (try clear hb)))
         go_roundg k1
         case measure => have := HK1.out; omega
         case rel => exact ⟨(wrap64 (x10_1 + 1)), rfl, H', ⟨by have := HK1.out; omega⟩, ⟨by repeat (first | exact HB.out | apply below_alloc | apply pw_below_drewN | apply below_drew1 | refine below_set ?_ GE102.out)⟩⟩
        ·replace c9 := Bool.eq_false_iff.mpr c9
         subst c9
         rw [if_neg (show ¬ (false = true) by decide)] at H
         obtain rfl := Oi H
         have p101 : 0 ≤ (x10_1 : Int) := of_decide_eq_true (by assumption)
         have q101 : x10_1 < (l0.length : Int) := of_decide_eq_true (by assumption)
         obtain ⟨ad101, e101, hx101_0, hx101_1⟩ := at_T72 HR0.out x10_1 p101 q101
         cases e101
         replace hx101_0 := pw_cell_below HB.out hx101_0
         replace hx101_1 := pw_cell_below HB.out hx101_1
         replace p101 := eq_true p101
         replace q101 := eq_true q101
         go_wp2_with (first | ((with_reducible refine gate_dst (N := 4) rfl ?_); refine box_event ?hg (N := 4) ?hd (cs := #[.string (⟨#[]⟩ : ByteArray), .string (⟨#[]⟩ : ByteArray)]) (t := 72) ?hr ?_; (case hd => rfl); (case hg => rfl); (case hr => go_simp); intro gb102 hg w15 hbox hb; have n0_ := Ak (below_step (HB.out) hb); have n1_ := Ak (hbox); have n2_ := Ak ((by rw [hg]; exact (below_size (HB.out)) : w.heap.size ≤ gb102)); have n3_ := n2_; clear HB; have HB := n0_; have BK102 := n1_; have GW102 := n2_; have GE102 := n3_; clear n0_ n1_ n2_ n3_; clear hb hbox hg; have hcz16_0 := blk_cell BK102.out 0; have hcz16_1 := blk_cell BK102.out 1; have hfz16_0 := blk_frozen BK102.out 0; have hfz16_1 := blk_frozen BK102.out 1) | (go_at_call 87; (with_reducible refine (impl_attrAt.calls k1 _ _ l0 ((rd_T72 l0 x10_1).f0) t103 _ ?side1 ?side2 A6.out).mono ?_); (case side1 => exact Kd.C_below HR0.out (by repeat (first | exact HB.out | apply below_alloc | apply pw_below_drewN | apply below_drew1 | refine below_set ?_ GE102.out))); (case side2 => exact HC0.out); rintro e w17 ⟨rfl, hb⟩; replace BK102 := Ak (blk_below (g := gb102) (o := .cells #[.string ((rd_T72 l0 x10_1).f0), .string ((rd_T72 l0 x10_1).f1)] 72 (0, 0)) (by (with_reducible repeat (first | refine blk_drewN ?_ _ | refine blk_drew ?_ | refine blk_alloc ?_ _)); refine blk_put (cs := #[.string ((rd_T72 l0 x10_1).f0), .string (⟨#[]⟩ : ByteArray)]) ?_ 1 _ rfl; (with_reducible repeat (first | refine blk_drewN ?_ _ | refine blk_drew ?_ | refine blk_alloc ?_ _)); refine blk_put (cs := #[.string (⟨#[]⟩ : ByteArray), .string (⟨#[]⟩ : ByteArray)]) ?_ 0 _ rfl; (with_reducible repeat (first | refine blk_drewN ?_ _ | refine blk_drew ?_ | refine blk_alloc ?_ _)); exact BK102.out) hb); replace HB := Ak (below_step (by repeat (first | exact HB.out | apply below_alloc | apply pw_below_drewN | apply below_drew1 | refine below_set ?_ GE102.out)) hb); (try clear hb); have hcz18_0 := blk_cell BK102.out 0; have hcz18_1 := blk_cell BK102.out 1; have hfz18_0 := blk_frozen BK102.out 0; have hfz18_1 := blk_frozen BK102.out 1) | (go_at_call 88; (with_reducible refine (impl_attrOk.calls k1 ((rd_T72 l0 x10_1).f0) ((rd_T72 l0 x10_1).f1) false _ A8.out).mono ?_); rintro e w19 ⟨rfl, hb⟩; replace BK102 := Ak (blk_below BK102.out hb); replace HB := Ak (below_step (by repeat (first | exact HB.out | apply below_alloc | apply pw_below_drewN | apply below_drew1 | refine below_set ?_ GE102.out)) hb); (try clear hb)))
         go_ret
         exact ⟨rfl, by repeat (first | exact HB.out | apply below_alloc | apply pw_below_drewN | apply below_drew1 | refine below_set ?_ GE102.out)⟩
       ·rw [if_neg c7] at H
        have c7b0 := beq_eq_false_iff_ne.mpr c7
        have c7b1 := bne_iff_ne.mpr c7
        obtain rfl := Oi H
        have p101 : 0 ≤ (x10_1 : Int) := of_decide_eq_true (by assumption)
        have q101 : x10_1 < (l0.length : Int) := of_decide_eq_true (by assumption)
        obtain ⟨ad101, e101, hx101_0, hx101_1⟩ := at_T72 HR0.out x10_1 p101 q101
        cases e101
        replace hx101_0 := pw_cell_below HB.out hx101_0
        replace hx101_1 := pw_cell_below HB.out hx101_1
        replace p101 := eq_true p101
        replace q101 := eq_true q101
        go_wp2_with (first | ((with_reducible refine gate_dst (N := 4) rfl ?_); refine box_event ?hg (N := 4) ?hd (cs := #[.string (⟨#[]⟩ : ByteArray), .string (⟨#[]⟩ : ByteArray)]) (t := 72) ?hr ?_; (case hd => rfl); (case hg => rfl); (case hr => go_simp); intro gb102 hg w20 hbox hb; have n0_ := Ak (below_step (HB.out) hb); have n1_ := Ak (hbox); have n2_ := Ak ((by rw [hg]; exact (below_size (HB.out)) : w.heap.size ≤ gb102)); have n3_ := n2_; clear HB; have HB := n0_; have BK102 := n1_; have GW102 := n2_; have GE102 := n3_; clear n0_ n1_ n2_ n3_; clear hb hbox hg; have hcz21_0 := blk_cell BK102.out 0; have hcz21_1 := blk_cell BK102.out 1; have hfz21_0 := blk_frozen BK102.out 0; have hfz21_1 := blk_frozen BK102.out 1) | (go_at_call 87; (with_reducible refine (impl_attrAt.calls k1 _ _ l0 ((rd_T72 l0 x10_1).f0) t103 _ ?side1 ?side2 A6.out).mono ?_); (case side1 => exact Kd.C_below HR0.out (by repeat (first | exact HB.out | apply below_alloc | apply pw_below_drewN | apply below_drew1 | refine below_set ?_ GE102.out))); (case side2 => exact HC0.out); rintro e w22 ⟨rfl, hb⟩; replace BK102 := Ak (blk_below (g := gb102) (o := .cells #[.string ((rd_T72 l0 x10_1).f0), .string ((rd_T72 l0 x10_1).f1)] 72 (0, 0)) (by (with_reducible repeat (first | refine blk_drewN ?_ _ | refine blk_drew ?_ | refine blk_alloc ?_ _)); refine blk_put (cs := #[.string ((rd_T72 l0 x10_1).f0), .string (⟨#[]⟩ : ByteArray)]) ?_ 1 _ rfl; (with_reducible repeat (first | refine blk_drewN ?_ _ | refine blk_drew ?_ | refine blk_alloc ?_ _)); refine blk_put (cs := #[.string (⟨#[]⟩ : ByteArray), .string (⟨#[]⟩ : ByteArray)]) ?_ 0 _ rfl; (with_reducible repeat (first | refine blk_drewN ?_ _ | refine blk_drew ?_ | refine blk_alloc ?_ _)); exact BK102.out) hb); replace HB := Ak (below_step (by repeat (first | exact HB.out | apply below_alloc | apply pw_below_drewN | apply below_drew1 | refine below_set ?_ GE102.out)) hb); (try clear hb)))
        go_ret
        exact ⟨rfl, by repeat (first | exact HB.out | apply below_alloc | apply pw_below_drewN | apply below_drew1 | refine below_set ?_ GE102.out)⟩
      ·rw [if_neg c5] at H
       exact absurd H (by simp)
     ·rw [if_neg c4] at H
      exact absurd H (by simp)
    ·rw [if_neg c3] at H
     have c3b0 := decide_eq_false c3
     clear c3
     obtain rfl := Oi H
     go_wp2
     go_ret
     exact ⟨rfl, HB.out⟩
def impl_nodeOk.j0 : Nat → Bool → Int → ByteArray → List (S72) → ByteArray → Int → List Int → Option (Bool)
 | 0, _, _, _, _, _, _, _ => none
 | k + 1, x32, x102000, x102001, x102002, x102003, x102004, x102005 => if x32 = true then (some false) else (if x102000 = 1 then (if x102001.toList = ([] : List UInt8) then (if x102003.toList = ([] : List UInt8) then (some (x102004 == (-1))) else (some false)) else (some false)) else (if x102000 = 2 then ((impl_doctypeOk.f k x102001).bind fun t103 => (if t103 = true then (some (x102003.toList == ([] : List UInt8))) else (some false))) else (if x102000 = 3 then ((impl_NameOk.f k x102001).bind fun t104 => (if t104 = true then ((impl_AttrsOk.f k x102002).bind fun t105 => (if t105 = true then (some (x102003.toList == ([] : List UInt8))) else (some false))) else (some false))) else (if x102000 = 4 then (if x102001.toList = ([] : List UInt8) then (if x102003.toList = ([] : List UInt8) then (some false) else ((impl_textOk.f k x102003).bind fun t106 => (some t106))) else (some false)) else (if x102000 = 5 then (if x102001.toList = ([] : List UInt8) then ((impl_textOk.f k x102003).bind fun t107 => (some t107)) else (some false)) else (some false))))))
def impl_nodeOk.f (k : Nat) (a0_0 : Int) (a0_1 : ByteArray) (l0_2 : List (S72)) (a0_3 : ByteArray) (a0_4 : Int) (l0_5 : List Int) (a1 : Int) : Option (Bool) := if ((a0_0 == 1) != (a1 == 0)) = true then (impl_nodeOk.j0 k true a0_0 a0_1 l0_2 a0_3 a0_4 l0_5) else (if (l0_5.length : Int) > 0 then ((impl_Node_mayHold.f a0_0 a0_1 l0_2 a0_3 a0_4 l0_5).bind fun t102 => (if t102 = true then (if a0_0 = 3 then (impl_nodeOk.j0 k false a0_0 a0_1 l0_2 a0_3 a0_4 l0_5) else (impl_nodeOk.j0 k (decide ((l0_2.length : Int) > 0)) a0_0 a0_1 l0_2 a0_3 a0_4 l0_5)) else (impl_nodeOk.j0 k true a0_0 a0_1 l0_2 a0_3 a0_4 l0_5))) else (if a0_0 = 3 then (impl_nodeOk.j0 k false a0_0 a0_1 l0_2 a0_3 a0_4 l0_5) else (impl_nodeOk.j0 k (decide ((l0_2.length : Int) > 0)) a0_0 a0_1 l0_2 a0_3 a0_4 l0_5)))
theorem impl_nodeOk.mono_l : ∀ k, (∀ y0 y1 y2 y3 y4 y5 y6, LeO (impl_nodeOk.j0 k y0 y1 y2 y3 y4 y5 y6) (impl_nodeOk.j0 (k + 1) y0 y1 y2 y3 y4 y5 y6))
 | 0 => fun _ _ _ _ _ _ _ r h => by simp [impl_nodeOk.j0] at h
 | k + 1 => by
  have ih0 := impl_nodeOk.mono_l k
  ·intro y0 y1 y2 y3 y4 y5 y6
   unfold impl_nodeOk.j0
   repeat' (with_reducible first | exact ih0 _ _ _ _ _ _ _ | exact impl_AttrsOk.mono _ _ | exact impl_NameOk.mono _ _ | exact impl_doctypeOk.mono _ _ | exact impl_textOk.mono _ _ | exact LeO.refl _ | exact LeO.none _ | refine LeO.ite ?_ ?_ | refine LeO.bind ?_ (fun _ => ?_))
theorem impl_nodeOk.mono : ∀ a0 a1 a2 a3 a4 a5 a6 k, LeO (impl_nodeOk.f k a0 a1 a2 a3 a4 a5 a6) (impl_nodeOk.f (k + 1) a0 a1 a2 a3 a4 a5 a6) := by
 intro a0 a1 a2 a3 a4 a5 a6 k
 have ih0 := impl_nodeOk.mono_l k
 unfold impl_nodeOk.f
 repeat' (with_reducible first | exact ih0 _ _ _ _ _ _ _ | exact impl_AttrsOk.mono _ _ | exact impl_NameOk.mono _ _ | exact impl_doctypeOk.mono _ _ | exact impl_textOk.mono _ _ | exact LeO.refl _ | exact LeO.none _ | refine LeO.ite ?_ ?_ | refine LeO.bind ?_ (fun _ => ?_))
theorem impl_nodeOk.calls (k : Nat) (a0_0 : Int) (a0_1 : ByteArray) (A0_2 : Option Addr) (c0_2 : Nat) (l0_2 : List (S72)) (a0_3 : ByteArray) (a0_4 : Int) (A0_5 : Option Addr) (c0_5 : Nat) (l0_5 : List Int) (a1 : Int) (r : Bool) (w : World) (hr0_2 : Kd.C k72 w A0_2 l0_2.length l0_2) (hc0_2 : l0_2.length ≤ c0_2) (hr0_5 : Kd.C (Kd.int .i64) w A0_5 l0_5.length l0_5) (hc0_5 : l0_5.length ≤ c0_5) (h : impl_nodeOk.f k a0_0 a0_1 l0_2 a0_3 a0_4 l0_5 a1 = some r) :
 Calls Tryz.prog 31 #[.agg #[.int .i64 a0_0, .string a0_1, .slice A0_2 l0_2.length c0_2, .string a0_3, .int .i64 a0_4, .slice A0_5 l0_5.length c0_5], .int .i64 a1] w fun e w' => e = .returned (.bool r) ∧ Below w.heap.size w w' := by
 have hu41 := Tryz.underlying41
 have HR0_2 := Ak hr0_2
 have HC0_2 := Ak hc0_2
 clear hr0_2 hc0_2
 have HR0_5 := Ak hr0_5
 have HC0_5 := Ak hc0_5
 clear hr0_5 hc0_5
 have HB := Ak (Below.refl w.heap.size w)
 have H : (if ((a0_0 == 1) != (a1 == 0)) = true then (impl_nodeOk.j0 k true a0_0 a0_1 l0_2 a0_3 a0_4 l0_5) else (if (l0_5.length : Int) > 0 then ((impl_Node_mayHold.f a0_0 a0_1 l0_2 a0_3 a0_4 l0_5).bind fun t102 => (if t102 = true then (if a0_0 = 3 then (impl_nodeOk.j0 k false a0_0 a0_1 l0_2 a0_3 a0_4 l0_5) else (impl_nodeOk.j0 k (decide ((l0_2.length : Int) > 0)) a0_0 a0_1 l0_2 a0_3 a0_4 l0_5)) else (impl_nodeOk.j0 k true a0_0 a0_1 l0_2 a0_3 a0_4 l0_5))) else (if a0_0 = 3 then (impl_nodeOk.j0 k false a0_0 a0_1 l0_2 a0_3 a0_4 l0_5) else (impl_nodeOk.j0 k (decide ((l0_2.length : Int) > 0)) a0_0 a0_1 l0_2 a0_3 a0_4 l0_5)))) = some r := h
 clear h
 have HC3 := Ak H
 clear H
 go_enter Tryz.func31, Tryz.ntmps31
 go_upto_region 1 with (first | ((with_reducible refine gate_dst (N := 2) rfl ?_); (try (refine gate_guard (by rfl) ?_; dsimp only)); refine box_event ?hg (N := 2) ?hd (cs := #[.int .i64 a0_0, .string a0_1, .slice A0_2 l0_2.length c0_2, .string a0_3, .int .i64 a0_4, .slice A0_5 l0_5.length c0_5]) (t := 41) ?hr ?_; (case hd => rfl); (case hg => rfl); (case hr => first | (go_simp; done) | (go_simp; rfl)); intro gb101 hg w4 hbox hb; have n0_ := Ak (below_step (HB.out) hb); have n1_ := Ak (hbox); have n2_ := Ak ((by rw [hg]; exact (below_size (HB.out)) : w.heap.size ≤ gb101)); have n3_ := n2_; clear HB; have HB := n0_; have BK101 := n1_; have GW101 := n2_; have GE101 := n3_; clear n0_ n1_ n2_ n3_; clear hb hbox hg))
 (try simp only [Act.put, List.setIfInBounds_toArray, List.set_cons_zero, List.set_cons_succ])
 go_cut [32] (fun v32 wc => ∃ (kq : Nat) (x32_2 : Bool), v32 = .bool x32_2 ∧ Aside0 (impl_nodeOk.j0 kq x32_2 a0_0 a0_1 l0_2 a0_3 a0_4 l0_5 = some r) ∧ Aside0 (kq ≤ k) ∧ Aside0 (wc.heap[gb101]? = some (.cells #[.int .i64 a0_0, .string a0_1, (.slice A0_2 l0_2.length c0_2), .string a0_3, .int .i64 a0_4, (.slice A0_5 l0_5.length c0_5)] 41 (0, 0))) ∧ Aside0 (Below w.heap.size w wc))
 case first =>
  have H := HC3.out
  clear HC3
  by_cases c5 : ((a0_0 == 1) != (a1 == 0)) = true
  ·rw [if_pos c5] at H
   have c5b0 : ((a0_0 == 1) != (a1 == 0)) = true := c5
   (try (have c5b1 : decide ((a0_0 == 1) = (a1 == 0)) = false := by simpa using c5))
   (try (have c5b2 : ((a0_0 == 1) == (a1 == 0)) = false := by simpa using c5))
   (try (have c5b3 : ¬ ((a0_0 == 1) = (a1 == 0)) := by simpa using c5))
   clear c5
   (first | rw [c5b0] | (simp only [i64_w, i32_w]; rw [c5b0]) | skip)
   have H' := Ak H
   clear H
   have hcz6_0 := blk_cell BK101.out 0
   have hcz6_1 := blk_cell BK101.out 1
   have hcz6_2 := blk_cell BK101.out 2
   have hcz6_3 := blk_cell BK101.out 3
   have hcz6_4 := blk_cell BK101.out 4
   have hcz6_5 := blk_cell BK101.out 5
   have hfz6_0 := blk_frozen BK101.out
   go_wp2
   go_meet
   case rel => exact ⟨_, (true), (by first | rfl | (simp; done) | (simp [*]; done)), H', ⟨by first | omega | exact Nat.le_refl _⟩, ⟨by (with_reducible repeat (first | refine blk_drewN ?_ _ | refine blk_drew ?_ | refine blk_alloc ?_ _)); exact BK101.out⟩, ⟨HB.out⟩⟩
  ·rw [if_neg c5] at H
   have c5b0 : ((a0_0 == 1) != (a1 == 0)) = false := by simpa using c5
   (try (have c5b1 : decide ((a0_0 == 1) = (a1 == 0)) = true := by simpa using c5))
   (try (have c5b2 : ((a0_0 == 1) == (a1 == 0)) = true := by simpa using c5))
   clear c5
   (first | rw [c5b0] | (simp only [i64_w, i32_w]; rw [c5b0]) | skip)
   by_cases c7 : (l0_5.length : Int) > 0
   ·rw [if_pos c7] at H
    have c7b0 : decide (0 < (l0_5.length : Int)) = true := decide_eq_true c7
    have c7b1 : decide (0 < l0_5.length) = true := decide_eq_true (by omega)
    clear c7
    replace H := Ob H
    obtain ⟨t102, A80, H⟩ := H
    replace H : (if t102 = true then (if a0_0 = 3 then (impl_nodeOk.j0 k false a0_0 a0_1 l0_2 a0_3 a0_4 l0_5) else (impl_nodeOk.j0 k (decide ((l0_2.length : Int) > 0)) a0_0 a0_1 l0_2 a0_3 a0_4 l0_5)) else (impl_nodeOk.j0 k true a0_0 a0_1 l0_2 a0_3 a0_4 l0_5)) = some r := H
    have A8 := Ak A80
    clear A80
    by_cases c9 : t102 = true
    ·subst c9
     rw [if_pos rfl] at H
     by_cases c10 : a0_0 = 3
     ·rw [if_pos c10] at H
      have c10b0 := beq_iff_eq.mpr c10
      have c10b1 := bne_eq_false_iff_eq.mpr c10
      clear c10
      have H' := Ak H
      clear H
      have hcz11_0 := blk_cell BK101.out 0
      have hcz11_1 := blk_cell BK101.out 1
      have hcz11_2 := blk_cell BK101.out 2
      have hcz11_3 := blk_cell BK101.out 3
      have hcz11_4 := blk_cell BK101.out 4
      have hcz11_5 := blk_cell BK101.out 5
      have hfz11_0 := blk_frozen BK101.out
      go_wp2_with (first | (go_at_call 53; (with_reducible refine (impl_Node_mayHold.calls a0_0 a0_1 _ _ l0_2 a0_3 a0_4 _ _ l0_5 true _ ?side1 ?side2 ?side3 ?side4 A8.out).mono ?_); (case side1 => exact (Kd.C_below HR0_2.out HB.out)); (case side2 => exact HC0_2.out); (case side3 => exact (Kd.C_below HR0_5.out HB.out)); (case side4 => exact HC0_5.out); rintro e w12 ⟨rfl, hb⟩; replace BK101 := Ak (blk_below BK101.out hb); replace HB := Ak (below_step (HB.out) hb); (try clear hb); have hcz13_0 := blk_cell BK101.out 0; have hcz13_1 := blk_cell BK101.out 1; have hcz13_2 := blk_cell BK101.out 2; have hcz13_3 := blk_cell BK101.out 3; have hcz13_4 := blk_cell BK101.out 4; have hcz13_5 := blk_cell BK101.out 5; have hfz13_0 := blk_frozen BK101.out; have hfz13_1 := blk_frozen BK101.out 1; have hfz13_2 := blk_frozen BK101.out 2; have hfz13_3 := blk_frozen BK101.out 3; have hfz13_4 := blk_frozen BK101.out 4; have hfz13_5 := blk_frozen BK101.out 5))
      go_meet
      case rel => exact ⟨_, (false), (by first | rfl | (simp; done) | (simp [*]; done)), H', ⟨by first | omega | exact Nat.le_refl _⟩, ⟨by (with_reducible repeat (first | refine blk_drewN ?_ _ | refine blk_drew ?_ | refine blk_alloc ?_ _)); exact BK101.out⟩, ⟨HB.out⟩⟩
     ·rw [if_neg c10] at H
      have c10b0 := beq_eq_false_iff_ne.mpr c10
      have c10b1 := bne_iff_ne.mpr c10
      have H' := Ak H
      clear H
      have hcz14_0 := blk_cell BK101.out 0
      have hcz14_1 := blk_cell BK101.out 1
      have hcz14_2 := blk_cell BK101.out 2
      have hcz14_3 := blk_cell BK101.out 3
      have hcz14_4 := blk_cell BK101.out 4
      have hcz14_5 := blk_cell BK101.out 5
      have hfz14_0 := blk_frozen BK101.out
      go_wp2_with (first | (go_at_call 53; (with_reducible refine (impl_Node_mayHold.calls a0_0 a0_1 _ _ l0_2 a0_3 a0_4 _ _ l0_5 true _ ?side1 ?side2 ?side3 ?side4 A8.out).mono ?_); (case side1 => exact (Kd.C_below HR0_2.out HB.out)); (case side2 => exact HC0_2.out); (case side3 => exact (Kd.C_below HR0_5.out HB.out)); (case side4 => exact HC0_5.out); rintro e w15 ⟨rfl, hb⟩; replace BK101 := Ak (blk_below BK101.out hb); replace HB := Ak (below_step (HB.out) hb); (try clear hb); have hcz16_0 := blk_cell BK101.out 0; have hcz16_1 := blk_cell BK101.out 1; have hcz16_2 := blk_cell BK101.out 2; have hcz16_3 := blk_cell BK101.out 3; have hcz16_4 := blk_cell BK101.out 4; have hcz16_5 := blk_cell BK101.out 5; have hfz16_0 := blk_frozen BK101.out; have hfz16_1 := blk_frozen BK101.out 1; have hfz16_2 := blk_frozen BK101.out 2; have hfz16_3 := blk_frozen BK101.out 3; have hfz16_4 := blk_frozen BK101.out 4; have hfz16_5 := blk_frozen BK101.out 5))
      go_meet
      case rel => exact ⟨_, (decide ((l0_2.length : Int) > 0)), (by first | rfl | (simp; done) | (simp [*]; done)), H', ⟨by first | omega | exact Nat.le_refl _⟩, ⟨by (with_reducible repeat (first | refine blk_drewN ?_ _ | refine blk_drew ?_ | refine blk_alloc ?_ _)); exact BK101.out⟩, ⟨HB.out⟩⟩
    ·replace c9 := Bool.eq_false_iff.mpr c9
     subst c9
     rw [if_neg (show ¬ (false = true) by decide)] at H
     have H' := Ak H
     clear H
     have hcz17_0 := blk_cell BK101.out 0
     have hcz17_1 := blk_cell BK101.out 1
     have hcz17_2 := blk_cell BK101.out 2
     have hcz17_3 := blk_cell BK101.out 3
     have hcz17_4 := blk_cell BK101.out 4
     have hcz17_5 := blk_cell BK101.out 5
     have hfz17_0 := blk_frozen BK101.out
     go_wp2_with (first | (go_at_call 53; (with_reducible refine (impl_Node_mayHold.calls a0_0 a0_1 _ _ l0_2 a0_3 a0_4 _ _ l0_5 false _ ?side1 ?side2 ?side3 ?side4 A8.out).mono ?_); (case side1 => exact (Kd.C_below HR0_2.out HB.out)); (case side2 => exact HC0_2.out); (case side3 => exact (Kd.C_below HR0_5.out HB.out)); (case side4 => exact HC0_5.out); rintro e w18 ⟨rfl, hb⟩; replace BK101 := Ak (blk_below BK101.out hb); replace HB := Ak (below_step (HB.out) hb); (try clear hb)))
     go_meet
     case rel => exact ⟨_, (true), (by first | rfl | (simp; done) | (simp [*]; done)), H', ⟨by first | omega | exact Nat.le_refl _⟩, ⟨by (with_reducible repeat (first | refine blk_drewN ?_ _ | refine blk_drew ?_ | refine blk_alloc ?_ _)); exact BK101.out⟩, ⟨HB.out⟩⟩
   ·rw [if_neg c7] at H
    have c7b0 : decide (0 < (l0_5.length : Int)) = false := decide_eq_false c7
    have c7b1 : decide (0 < l0_5.length) = false := decide_eq_false (by omega)
    clear c7
    by_cases c19 : a0_0 = 3
    ·rw [if_pos c19] at H
     have c19b0 := beq_iff_eq.mpr c19
     have c19b1 := bne_eq_false_iff_eq.mpr c19
     clear c19
     have H' := Ak H
     clear H
     have hcz20_0 := blk_cell BK101.out 0
     have hcz20_1 := blk_cell BK101.out 1
     have hcz20_2 := blk_cell BK101.out 2
     have hcz20_3 := blk_cell BK101.out 3
     have hcz20_4 := blk_cell BK101.out 4
     have hcz20_5 := blk_cell BK101.out 5
     have hfz20_0 := blk_frozen BK101.out
     go_wp2
     go_meet
     case rel => exact ⟨_, (false), (by first | rfl | (simp; done) | (simp [*]; done)), H', ⟨by first | omega | exact Nat.le_refl _⟩, ⟨by (with_reducible repeat (first | refine blk_drewN ?_ _ | refine blk_drew ?_ | refine blk_alloc ?_ _)); exact BK101.out⟩, ⟨HB.out⟩⟩
    ·rw [if_neg c19] at H
     have c19b0 := beq_eq_false_iff_ne.mpr c19
     have c19b1 := bne_iff_ne.mpr c19
     have H' := Ak H
     clear H
     have hcz21_0 := blk_cell BK101.out 0
     have hcz21_1 := blk_cell BK101.out 1
     have hcz21_2 := blk_cell BK101.out 2
     have hcz21_3 := blk_cell BK101.out 3
     have hcz21_4 := blk_cell BK101.out 4
     have hcz21_5 := blk_cell BK101.out 5
     have hfz21_0 := blk_frozen BK101.out
     go_wp2
     go_meet
     case rel => exact ⟨_, (decide ((l0_2.length : Int) > 0)), (by first | rfl | (simp; done) | (simp [*]; done)), H', ⟨by first | omega | exact Nat.le_refl _⟩, ⟨by (with_reducible repeat (first | refine blk_drewN ?_ _ | refine blk_drew ?_ | refine blk_alloc ?_ _)); exact BK101.out⟩, ⟨HB.out⟩⟩
 case rest =>
  clear HC3
  obtain ⟨kq, x32_2, rfl, HA, HJ2, BK101, HB⟩ := hcut
  cases kq with
  | zero => exact absurd HA.out (by simp [impl_nodeOk.j0])
  | succ kj2 =>
   have H := HA.out
   clear HA
   simp only [impl_nodeOk.j0] at H
   by_cases c22 : x32_2 = true
   ·subst c22
    rw [if_pos rfl] at H
    obtain rfl := Oi H
    go_wp2
    go_ret
    exact ⟨by first | rfl | (simp [*] <;> rfl), HB.out⟩
   ·replace c22 := Bool.eq_false_iff.mpr c22
    subst c22
    rw [if_neg (show ¬ (false = true) by decide)] at H
    by_cases c23 : a0_0 = 1
    ·rw [if_pos c23] at H
     have c23b0 := beq_iff_eq.mpr c23
     have c23b1 := bne_eq_false_iff_eq.mpr c23
     clear c23
     by_cases c24 : a0_1.toList = ([] : List UInt8)
     ·rw [if_pos c24] at H
      have c24b0 := beq_iff_eq.mpr c24
      have c24b1 := bne_eq_false_iff_eq.mpr c24
      clear c24
      by_cases c25 : a0_3.toList = ([] : List UInt8)
      ·rw [if_pos c25] at H
       have c25b0 := beq_iff_eq.mpr c25
       have c25b1 := bne_eq_false_iff_eq.mpr c25
       clear c25
       obtain rfl := Oi H
       have hcz26_0 := blk_cell BK101.out 0
       have hcz26_1 := blk_cell BK101.out 1
       have hcz26_2 := blk_cell BK101.out 2
       have hcz26_3 := blk_cell BK101.out 3
       have hcz26_4 := blk_cell BK101.out 4
       have hcz26_5 := blk_cell BK101.out 5
       have hfz26_0 := blk_frozen BK101.out
       go_wp2
       go_ret
       exact ⟨by first | rfl | (simp [*] <;> rfl), HB.out⟩
      ·rw [if_neg c25] at H
       have c25b0 := beq_eq_false_iff_ne.mpr c25
       have c25b1 := bne_iff_ne.mpr c25
       obtain rfl := Oi H
       have hcz27_0 := blk_cell BK101.out 0
       have hcz27_1 := blk_cell BK101.out 1
       have hcz27_2 := blk_cell BK101.out 2
       have hcz27_3 := blk_cell BK101.out 3
       have hcz27_4 := blk_cell BK101.out 4
       have hcz27_5 := blk_cell BK101.out 5
       have hfz27_0 := blk_frozen BK101.out
       go_wp2
       go_ret
       exact ⟨by first | rfl | (simp [*] <;> rfl), HB.out⟩
     ·rw [if_neg c24] at H
      have c24b0 := beq_eq_false_iff_ne.mpr c24
      have c24b1 := bne_iff_ne.mpr c24
      obtain rfl := Oi H
      have hcz28_0 := blk_cell BK101.out 0
      have hcz28_1 := blk_cell BK101.out 1
      have hcz28_2 := blk_cell BK101.out 2
      have hcz28_3 := blk_cell BK101.out 3
      have hcz28_4 := blk_cell BK101.out 4
      have hcz28_5 := blk_cell BK101.out 5
      have hfz28_0 := blk_frozen BK101.out
      go_wp2
      go_ret
      exact ⟨by first | rfl | (simp [*] <;> rfl), HB.out⟩
    ·rw [if_neg c23] at H
     have c23b0 := beq_eq_false_iff_ne.mpr c23
     have c23b1 := bne_iff_ne.mpr c23
     by_cases c29 : a0_0 = 2
     ·rw [if_pos c29] at H
      have c29b0 := beq_iff_eq.mpr c29
      have c29b1 := bne_eq_false_iff_eq.mpr c29
      clear c29
      replace H := Ob H
      obtain ⟨t103, A300, H⟩ := H
      replace H : (if t103 = true then (some (a0_3.toList == ([] : List UInt8))) else (some false)) = some r := H
      have A30 := Ak A300
      clear A300
      by_cases c31 : t103 = true
      ·subst c31
       rw [if_pos rfl] at H
       obtain rfl := Oi H
       have hcz32_0 := blk_cell BK101.out 0
       have hcz32_1 := blk_cell BK101.out 1
       have hcz32_2 := blk_cell BK101.out 2
       have hcz32_3 := blk_cell BK101.out 3
       have hcz32_4 := blk_cell BK101.out 4
       have hcz32_5 := blk_cell BK101.out 5
       have hfz32_0 := blk_frozen BK101.out
       go_wp2_with (first | (go_at_call 54; (with_reducible refine (impl_doctypeOk.calls kj2 a0_1 true _ A30.out).mono ?_); rintro e w33 ⟨rfl, hb⟩; replace BK101 := Ak (blk_below BK101.out hb); replace HB := Ak (below_step (HB.out) hb); (try clear hb); have hcz34_0 := blk_cell BK101.out 0; have hcz34_1 := blk_cell BK101.out 1; have hcz34_2 := blk_cell BK101.out 2; have hcz34_3 := blk_cell BK101.out 3; have hcz34_4 := blk_cell BK101.out 4; have hcz34_5 := blk_cell BK101.out 5; have hfz34_0 := blk_frozen BK101.out; have hfz34_1 := blk_frozen BK101.out 1; have hfz34_2 := blk_frozen BK101.out 2; have hfz34_3 := blk_frozen BK101.out 3; have hfz34_4 := blk_frozen BK101.out 4; have hfz34_5 := blk_frozen BK101.out 5))
       go_ret
       exact ⟨by first | rfl | (simp [*] <;> rfl), HB.out⟩
      ·replace c31 := Bool.eq_false_iff.mpr c31
       subst c31
       rw [if_neg (show ¬ (false = true) by decide)] at H
       obtain rfl := Oi H
       have hcz35_0 := blk_cell BK101.out 0
       have hcz35_1 := blk_cell BK101.out 1
       have hcz35_2 := blk_cell BK101.out 2
       have hcz35_3 := blk_cell BK101.out 3
       have hcz35_4 := blk_cell BK101.out 4
       have hcz35_5 := blk_cell BK101.out 5
       have hfz35_0 := blk_frozen BK101.out
       go_wp2_with (first | (go_at_call 54; (with_reducible refine (impl_doctypeOk.calls kj2 a0_1 false _ A30.out).mono ?_); rintro e w36 ⟨rfl, hb⟩; replace BK101 := Ak (blk_below BK101.out hb); replace HB := Ak (below_step (HB.out) hb); (try clear hb)))
       go_ret
       exact ⟨by first | rfl | (simp [*] <;> rfl), HB.out⟩
     ·rw [if_neg c29] at H
      have c29b0 := beq_eq_false_iff_ne.mpr c29
      have c29b1 := bne_iff_ne.mpr c29
      by_cases c37 : a0_0 = 3
      ·rw [if_pos c37] at H
       have c37b0 := beq_iff_eq.mpr c37
       have c37b1 := bne_eq_false_iff_eq.mpr c37
       clear c37
       replace H := Ob H
       obtain ⟨t104, A380, H⟩ := H
       replace H : (if t104 = true then ((impl_AttrsOk.f kj2 l0_2).bind fun t105 => (if t105 = true then (some (a0_3.toList == ([] : List UInt8))) else (some false))) else (some false)) = some r := H
       have A38 := Ak A380
       clear A380
       by_cases c39 : t104 = true
       ·subst c39
        rw [if_pos rfl] at H
        replace H := Ob H
        obtain ⟨t105, A400, H⟩ := H
        replace H : (if t105 = true then (some (a0_3.toList == ([] : List UInt8))) else (some false)) = some r := H
        have A40 := Ak A400
        clear A400
        by_cases c41 : t105 = true
        ·subst c41
         rw [if_pos rfl] at H
         obtain rfl := Oi H
         have hcz42_0 := blk_cell BK101.out 0
         have hcz42_1 := blk_cell BK101.out 1
         have hcz42_2 := blk_cell BK101.out 2
         have hcz42_3 := blk_cell BK101.out 3
         have hcz42_4 := blk_cell BK101.out 4
         have hcz42_5 := blk_cell BK101.out 5
         have hfz42_0 := blk_frozen BK101.out
         go_wp2_with (first | (go_at_call 55; (with_reducible refine (impl_NameOk.calls kj2 a0_1 true _ A38.out).mono ?_); rintro e w43 ⟨rfl, hb⟩; replace BK101 := Ak (blk_below BK101.out hb); replace HB := Ak (below_step (HB.out) hb); (try clear hb); have hcz44_0 := blk_cell BK101.out 0; have hcz44_1 := blk_cell BK101.out 1; have hcz44_2 := blk_cell BK101.out 2; have hcz44_3 := blk_cell BK101.out 3; have hcz44_4 := blk_cell BK101.out 4; have hcz44_5 := blk_cell BK101.out 5; have hfz44_0 := blk_frozen BK101.out; have hfz44_1 := blk_frozen BK101.out 1; have hfz44_2 := blk_frozen BK101.out 2; have hfz44_3 := blk_frozen BK101.out 3; have hfz44_4 := blk_frozen BK101.out 4; have hfz44_5 := blk_frozen BK101.out 5) | (go_at_call 56; (with_reducible refine (impl_AttrsOk.calls kj2 _ _ l0_2 true _ ?side1 ?side2 A40.out).mono ?_); (case side1 => exact (Kd.C_below HR0_2.out HB.out)); (case side2 => exact HC0_2.out); rintro e w45 ⟨rfl, hb⟩; replace BK101 := Ak (blk_below BK101.out hb); replace HB := Ak (below_step (HB.out) hb); (try clear hb); have hcz46_0 := blk_cell BK101.out 0; have hcz46_1 := blk_cell BK101.out 1; have hcz46_2 := blk_cell BK101.out 2; have hcz46_3 := blk_cell BK101.out 3; have hcz46_4 := blk_cell BK101.out 4; have hcz46_5 := blk_cell BK101.out 5; have hfz46_0 := blk_frozen BK101.out; have hfz46_1 := blk_frozen BK101.out 1; have hfz46_2 := blk_frozen BK101.out 2; have hfz46_3 := blk_frozen BK101.out 3; have hfz46_4 := blk_frozen BK101.out 4; have hfz46_5 := blk_frozen BK101.out 5))
         go_ret
         exact ⟨by first | rfl | (simp [*] <;> rfl), HB.out⟩
        ·replace c41 := Bool.eq_false_iff.mpr c41
         subst c41
         rw [if_neg (show ¬ (false = true) by decide)] at H
         obtain rfl := Oi H
         have hcz47_0 := blk_cell BK101.out 0
         have hcz47_1 := blk_cell BK101.out 1
         have hcz47_2 := blk_cell BK101.out 2
         have hcz47_3 := blk_cell BK101.out 3
         have hcz47_4 := blk_cell BK101.out 4
         have hcz47_5 := blk_cell BK101.out 5
         have hfz47_0 := blk_frozen BK101.out
         go_wp2_with (first | (go_at_call 55; (with_reducible refine (impl_NameOk.calls kj2 a0_1 true _ A38.out).mono ?_); rintro e w48 ⟨rfl, hb⟩; replace BK101 := Ak (blk_below BK101.out hb); replace HB := Ak (below_step (HB.out) hb); (try clear hb); have hcz49_0 := blk_cell BK101.out 0; have hcz49_1 := blk_cell BK101.out 1; have hcz49_2 := blk_cell BK101.out 2; have hcz49_3 := blk_cell BK101.out 3; have hcz49_4 := blk_cell BK101.out 4; have hcz49_5 := blk_cell BK101.out 5; have hfz49_0 := blk_frozen BK101.out; have hfz49_1 := blk_frozen BK101.out 1; have hfz49_2 := blk_frozen BK101.out 2; have hfz49_3 := blk_frozen BK101.out 3; have hfz49_4 := blk_frozen BK101.out 4; have hfz49_5 := blk_frozen BK101.out 5) | (go_at_call 56; (with_reducible refine (impl_AttrsOk.calls kj2 _ _ l0_2 false _ ?side1 ?side2 A40.out).mono ?_); (case side1 => exact (Kd.C_below HR0_2.out HB.out)); (case side2 => exact HC0_2.out); rintro e w50 ⟨rfl, hb⟩; replace BK101 := Ak (blk_below BK101.out hb); replace HB := Ak (below_step (HB.out) hb); (try clear hb)))
         go_ret
         exact ⟨by first | rfl | (simp [*] <;> rfl), HB.out⟩
       ·replace c39 := Bool.eq_false_iff.mpr c39
        subst c39
        rw [if_neg (show ¬ (false = true) by decide)] at H
        obtain rfl := Oi H
        have hcz51_0 := blk_cell BK101.out 0
        have hcz51_1 := blk_cell BK101.out 1
        have hcz51_2 := blk_cell BK101.out 2
        have hcz51_3 := blk_cell BK101.out 3
        have hcz51_4 := blk_cell BK101.out 4
        have hcz51_5 := blk_cell BK101.out 5
        have hfz51_0 := blk_frozen BK101.out
        go_wp2_with (first | (go_at_call 55; (with_reducible refine (impl_NameOk.calls kj2 a0_1 false _ A38.out).mono ?_); rintro e w52 ⟨rfl, hb⟩; replace BK101 := Ak (blk_below BK101.out hb); replace HB := Ak (below_step (HB.out) hb); (try clear hb)))
        go_ret
        exact ⟨by first | rfl | (simp [*] <;> rfl), HB.out⟩
      ·rw [if_neg c37] at H
       have c37b0 := beq_eq_false_iff_ne.mpr c37
       have c37b1 := bne_iff_ne.mpr c37
       by_cases c53 : a0_0 = 4
       ·rw [if_pos c53] at H
        have c53b0 := beq_iff_eq.mpr c53
        have c53b1 := bne_eq_false_iff_eq.mpr c53
        clear c53
        by_cases c54 : a0_1.toList = ([] : List UInt8)
        ·rw [if_pos c54] at H
         have c54b0 := beq_iff_eq.mpr c54
         have c54b1 := bne_eq_false_iff_eq.mpr c54
         clear c54
         by_cases c55 : a0_3.toList = ([] : List UInt8)
         ·rw [if_pos c55] at H
          have c55b0 := beq_iff_eq.mpr c55
          have c55b1 := bne_eq_false_iff_eq.mpr c55
          clear c55
          obtain rfl := Oi H
          have hcz56_0 := blk_cell BK101.out 0
          have hcz56_1 := blk_cell BK101.out 1
          have hcz56_2 := blk_cell BK101.out 2
          have hcz56_3 := blk_cell BK101.out 3
          have hcz56_4 := blk_cell BK101.out 4
          have hcz56_5 := blk_cell BK101.out 5
          have hfz56_0 := blk_frozen BK101.out
          go_wp2
          go_ret
          exact ⟨by first | rfl | (simp [*] <;> rfl), HB.out⟩
         ·rw [if_neg c55] at H
          have c55b0 := beq_eq_false_iff_ne.mpr c55
          have c55b1 := bne_iff_ne.mpr c55
          replace H := Ob H
          obtain ⟨t106, A570, H⟩ := H
          replace H : (some t106) = some r := H
          have A57 := Ak A570
          clear A570
          obtain rfl := Oi H
          have hcz58_0 := blk_cell BK101.out 0
          have hcz58_1 := blk_cell BK101.out 1
          have hcz58_2 := blk_cell BK101.out 2
          have hcz58_3 := blk_cell BK101.out 3
          have hcz58_4 := blk_cell BK101.out 4
          have hcz58_5 := blk_cell BK101.out 5
          have hfz58_0 := blk_frozen BK101.out
          go_wp2_with (first | (go_at_call 57; (with_reducible refine (impl_textOk.calls kj2 a0_3 t106 _ A57.out).mono ?_); rintro e w59 ⟨rfl, hb⟩; replace BK101 := Ak (blk_below BK101.out hb); replace HB := Ak (below_step (HB.out) hb); (try clear hb)))
          go_ret
          exact ⟨by first | rfl | (simp [*] <;> rfl), HB.out⟩
        ·rw [if_neg c54] at H
         have c54b0 := beq_eq_false_iff_ne.mpr c54
         have c54b1 := bne_iff_ne.mpr c54
         obtain rfl := Oi H
         have hcz60_0 := blk_cell BK101.out 0
         have hcz60_1 := blk_cell BK101.out 1
         have hcz60_2 := blk_cell BK101.out 2
         have hcz60_3 := blk_cell BK101.out 3
         have hcz60_4 := blk_cell BK101.out 4
         have hcz60_5 := blk_cell BK101.out 5
         have hfz60_0 := blk_frozen BK101.out
         go_wp2
         go_ret
         exact ⟨by first | rfl | (simp [*] <;> rfl), HB.out⟩
       ·rw [if_neg c53] at H
        have c53b0 := beq_eq_false_iff_ne.mpr c53
        have c53b1 := bne_iff_ne.mpr c53
        by_cases c61 : a0_0 = 5
        ·rw [if_pos c61] at H
         have c61b0 := beq_iff_eq.mpr c61
         have c61b1 := bne_eq_false_iff_eq.mpr c61
         clear c61
         by_cases c62 : a0_1.toList = ([] : List UInt8)
         ·rw [if_pos c62] at H
          have c62b0 := beq_iff_eq.mpr c62
          have c62b1 := bne_eq_false_iff_eq.mpr c62
          clear c62
          replace H := Ob H
          obtain ⟨t107, A630, H⟩ := H
          replace H : (some t107) = some r := H
          have A63 := Ak A630
          clear A630
          obtain rfl := Oi H
          have hcz64_0 := blk_cell BK101.out 0
          have hcz64_1 := blk_cell BK101.out 1
          have hcz64_2 := blk_cell BK101.out 2
          have hcz64_3 := blk_cell BK101.out 3
          have hcz64_4 := blk_cell BK101.out 4
          have hcz64_5 := blk_cell BK101.out 5
          have hfz64_0 := blk_frozen BK101.out
          go_wp2_with (first | (go_at_call 57; (with_reducible refine (impl_textOk.calls kj2 a0_3 t107 _ A63.out).mono ?_); rintro e w65 ⟨rfl, hb⟩; replace BK101 := Ak (blk_below BK101.out hb); replace HB := Ak (below_step (HB.out) hb); (try clear hb)))
          go_ret
          exact ⟨by first | rfl | (simp [*] <;> rfl), HB.out⟩
         ·rw [if_neg c62] at H
          have c62b0 := beq_eq_false_iff_ne.mpr c62
          have c62b1 := bne_iff_ne.mpr c62
          obtain rfl := Oi H
          have hcz66_0 := blk_cell BK101.out 0
          have hcz66_1 := blk_cell BK101.out 1
          have hcz66_2 := blk_cell BK101.out 2
          have hcz66_3 := blk_cell BK101.out 3
          have hcz66_4 := blk_cell BK101.out 4
          have hcz66_5 := blk_cell BK101.out 5
          have hfz66_0 := blk_frozen BK101.out
          go_wp2
          go_ret
          exact ⟨by first | rfl | (simp [*] <;> rfl), HB.out⟩
        ·rw [if_neg c61] at H
         have c61b0 := beq_eq_false_iff_ne.mpr c61
         have c61b1 := bne_iff_ne.mpr c61
         obtain rfl := Oi H
         have hcz67_0 := blk_cell BK101.out 0
         have hcz67_1 := blk_cell BK101.out 1
         have hcz67_2 := blk_cell BK101.out 2
         have hcz67_3 := blk_cell BK101.out 3
         have hcz67_4 := blk_cell BK101.out 4
         have hcz67_5 := blk_cell BK101.out 5
         have hfz67_0 := blk_frozen BK101.out
         go_wp2
         go_ret
         exact ⟨by first | rfl | (simp [*] <;> rfl), HB.out⟩
def IsS29 (w0 W : World) (g : Nat) (f0 : List (S41)) : Prop := ∃ A0 c0, W.heap[g]? = some (.cells #[.slice A0 f0.length c0] 29 (0, 0)) ∧ w0.heap.size ≤ g ∧ Kd.C k41 w0 A0 f0.length f0
theorem IsS29.grown {w0 W : World} {g : Nat} {f0 : List (S41)} {W1 : World} {row : Option Nat} (h : IsS29 w0 W g f0) (hw : W.grownBy W1 row) (hne : some g ≠ row) : IsS29 w0 W1 g f0 := by
 obtain ⟨A0, c0, hb, hg, hr0⟩ := h
 exact ⟨A0, c0, blk_grown hb hw hne, hg, hr0⟩
theorem IsS29.own_neN {w0 W : World} {g : Nat} {f0 : List (S41)} {α : Type} {d : Kd α} {e : Nat} {base : Nat} {ok : Nat → Prop} {v : Value} {xs : List α} (h : IsS29 w0 W g f0) (ho : Kd.N d e W base ok v xs) (ht : e ≠ 29) : some g ≠ v.ownBlock := by
 obtain ⟨A0, c0, hb, hg, hr0⟩ := h
 exact Kd.N_ne ho hb ht
theorem IsS29.fresh {w0 W : World} {g : Nat} {f0 : List (S41)} (h : IsS29 w0 W g f0) : ∀ k, W.heap.size ≤ k → k ≠ g := by
 obtain ⟨A0, c0, hb, hg, hr0⟩ := h
 exact Kd.freshB hb
theorem IsS29.kept {w0 W : World} {g : Nat} {f0 : List (S41)} {W1 : World} {S : Nat → Prop} (h : IsS29 w0 W g f0) (hk : Kept W W1 S) (hne : ¬ S g) : IsS29 w0 W1 g f0 := by
 obtain ⟨A0, c0, hb, hg, hr0⟩ := h
 exact ⟨A0, c0, blk_kept hb hk hne, hg, hr0⟩
theorem IsS29.below {w0 W : World} {g : Nat} {f0 : List (S41)} {W1 : World} (h : IsS29 w0 W g f0) (hw : Below W.heap.size W W1) : IsS29 w0 W1 g f0 := h.grown (grown_of_below hw none) (by simp)
theorem IsS29.alloc {w0 W : World} {g : Nat} {f0 : List (S41)} (h : IsS29 w0 W g f0) (o : Obj) : IsS29 w0 (W.alloc o) g f0 := h.below (below_alloc (Below.refl _ _) o)
theorem IsS29.drewN {w0 W : World} {g : Nat} {f0 : List (S41)} (h : IsS29 w0 W g f0) (m : Nat) : IsS29 w0 (W.drewN m) g f0 := h
theorem IsS29.drew {w0 W : World} {g : Nat} {f0 : List (S41)} (h : IsS29 w0 W g f0) : IsS29 w0 W.drew g f0 := h
theorem IsS29.at_ {w0 W : World} {g : Nat} {f0 : List (S41)} {w' : World} {m : Nat} (hq : W.drewN m = w') (h : IsS29 w0 W g f0) : IsS29 w0 w' g f0 := by subst hq; exact IsS29.drewN h m
theorem IsS29.apart {w0 W : World} {g : Nat} {f0 : List (S41)} {α : Type} {d : Kd α} {e : Nat} {base : Nat} {ok : Nat → Prop} {v : Value} {xs : List α} (h : IsS29 w0 W g f0) (ho : d.R e W base ok v xs) (ht : ∀ q, q ∈ e :: d.E → q ≠ 29) : d.R e W base (fun k => ok k ∧ k ≠ g) v xs := by
 obtain ⟨A0, c0, hb, hg, hr0⟩ := h
 exact Kd.R_types ho hb ht
theorem IsS29.own_ne {w0 W : World} {g : Nat} {f0 : List (S41)} {α : Type} {d : Kd α} {e : Nat} {base : Nat} {ok : Nat → Prop} {v : Value} {xs : List α} (h : IsS29 w0 W g f0) (ho : d.R e W base ok v xs) (ht : e ≠ 29) : some g ≠ v.ownBlock := by
 obtain ⟨A0, c0, hb, hg, hr0⟩ := h
 exact Kd.R_ne ho hb ht
theorem IsS29.apartQ {w0 W : World} {g : Nat} {f0 : List (S41)} {α : Type} {d : Kd α} {e : Nat} {base : Nat} {ok : Nat → Prop} {v : Value} {xs : List α} (h : IsS29 w0 W g f0) (ho : d.Q e W base ok v xs) (ht : ∀ q, q ∈ e :: d.E → q ≠ 29) : d.Q e W base (fun k => ok k ∧ k ≠ g) v xs := by
 obtain ⟨A0, c0, hb, hg, hr0⟩ := h
 exact Kd.Q_types ho hb ht
theorem IsS29.own_neQ {w0 W : World} {g : Nat} {f0 : List (S41)} {α : Type} {d : Kd α} {e : Nat} {base : Nat} {ok : Nat → Prop} {v : Value} {xs : List α} (h : IsS29 w0 W g f0) (ho : d.Q e W base ok v xs) (ht : e ≠ 29) : some g ≠ v.ownBlock := by
 obtain ⟨A0, c0, hb, hg, hr0⟩ := h
 exact Kd.Q_ne ho hb ht
theorem IsS29.apartS {w0 W : World} {g : Nat} {f0 : List (S41)} {α : Type} {d : Kd α} {e : Nat} {base : Nat} {ok : Nat → Prop} {v : Value} {xs : List α} (h : IsS29 w0 W g f0) (ho : d.S e W base ok v xs) (ht : ∀ q, q ∈ e :: d.E → q ≠ 29) : d.S e W base (fun k => ok k ∧ k ≠ g) v xs := by
 obtain ⟨A0, c0, hb, hg, hr0⟩ := h
 exact Kd.S_types ho hb ht
theorem IsS29.own_neS {w0 W : World} {g : Nat} {f0 : List (S41)} {α : Type} {d : Kd α} {e : Nat} {base : Nat} {ok : Nat → Prop} {v : Value} {xs : List α} (h : IsS29 w0 W g f0) (ho : d.S e W base ok v xs) (ht : e ≠ 29) : some g ≠ v.ownBlock := by
 obtain ⟨A0, c0, hb, hg, hr0⟩ := h
 exact Kd.S_ne ho hb ht
theorem IsS29.lt {w0 W : World} {g : Nat} {f0 : List (S41)} (h : IsS29 w0 W g f0) : g < W.heap.size := by
 obtain ⟨A0, c0, hb, hg, hr0⟩ := h
 exact blk_lt hb
theorem IsS29.ge {w0 W : World} {g : Nat} {f0 : List (S41)} (h : IsS29 w0 W g f0) : w0.heap.size ≤ g := by
 obtain ⟨A0, c0, hb, hg, hr0⟩ := h
 exact hg
theorem IsS29.ne_blk {w0 W : World} {g : Nat} {f0 : List (S41)} {a : Nat} {cs : Array Value} {t : TypeId} {fr : Nat × Nat} (h : IsS29 w0 W g f0) (hb2 : W.heap[a]? = some (.cells cs t fr)) (ht : t ≠ 29) : g ≠ a := by
 obtain ⟨A0, c0, hb, hg, hr0⟩ := h
 rintro rfl
 rw [hb] at hb2
 injection hb2 with hb2
 injection hb2 with _ ht2
 exact ht ht2.symm
theorem IsS29.far {w0 W : World} {g : Nat} {f0 : List (S41)} {p : Addr} (h : IsS29 w0 W g f0) (hne : g ≠ p.block) (u : Value) : IsS29 w0 (W.setCell p u) g f0 := by
 obtain ⟨A0, c0, hb, hg, hr0⟩ := h
 exact ⟨A0, c0, blk_far hb hne u, hg, hr0⟩
theorem cellS29_0 {W : World} {g : Nat} {A0 : Option Addr} {c0 : Nat} {f0 : List (S41)} (h : W.heap[g]? = some (.cells #[.slice A0 f0.length c0] 29 (0, 0))) : W.cell? ⟨g, 0, none⟩ = some (.slice A0 f0.length c0) := (blk_cell h 0).trans rfl
theorem IsS29.new (w0 W : World) (A0 : Option Addr) (c0 : Nat) (f0 : List (S41)) (hB : Below w0.heap.size w0 W) (hr0 : Kd.C k41 w0 A0 f0.length f0) : IsS29 w0 (W.alloc (.cells #[.slice A0 f0.length c0] 29)) W.heap.size f0 := ⟨A0, c0, by simpa using heap_alloc_new W _, hB.size, hr0⟩
def impl_Tree_isNode.f (s0_0 : List (S41)) (a1 : Int) : Option (Bool) := (impl_inRange.f a1 0 (wrap64 ((s0_0.length : Int) - 1))).bind fun t101 => (some t101)
theorem impl_Tree_isNode.calls (g : Nat) (s0_0 : List (S41)) (a1 : Int) (r : Bool) (w0 w : World) (hI : IsS29 w0 w g s0_0) (hB : Below w0.heap.size w0 w) (h : impl_Tree_isNode.f s0_0 a1 = some r) :
 Calls Tryz.prog 33 #[.pointer (some ⟨g, 0, none⟩), .int .i64 a1] w fun e w' => e = .returned (.bool r) ∧ IsS29 w0 w' g s0_0 ∧ Below w0.heap.size w0 w' ∧ KeepBut w w' g none := by
 have HI0 := Ak hI
 have HK := Ak (KeepBut.refl w g none)
 have HL := Ak hB.size
 clear hI
 have HW0 := Ak hB.size
 have HB := Ak hB
 clear hB
 have H : ((impl_inRange.f a1 0 (wrap64 ((s0_0.length : Int) - 1))).bind fun t101 => (some t101)) = some r := h
 clear h
 replace H := Ob H
 obtain ⟨t101, A30, H⟩ := H
 replace H : (some t101) = some r := H
 have A3 := Ak A30
 clear A30
 obtain rfl := Oi H
 obtain ⟨ASz4_0, cSz4_0, HGz4, hgz4, HSz4_0⟩ := HI0.out
 have hcz4_0 := cellS29_0 HGz4
 clear HGz4 hgz4
 go_enter Tryz.func33, Tryz.ntmps33
 go_wp2_with (first | (go_at_call 30; (with_reducible refine (impl_inRange.calls a1 0 (wrap64 ((s0_0.length : Int) - 1)) t101 _ A3.out).mono ?_); rintro e w' ⟨rfl, ⟨nd, rfl⟩⟩))
 go_ret
 exact ⟨by first | rfl | (simp [*] <;> rfl), HI0.out, by repeat (first | exact HB.out | apply below_alloc | apply pw_below_drewN | apply below_drew1 | refine below_set ?_ (IsS29.ge HI0.out)), HK.out⟩
def impl_Tree_isAbove.l0 : Nat → Int → Int → Int → Int → List (S41) → Option (Bool)
 | 0, _, _, _, _, _ => none
 | k + 1, x1, x2, x11, x12, x1000 => if x12 < x11 then (if x2 = x1 then (some true) else ((impl_Tree_isNode.f x1000 x2).bind fun t102 => (if t102 = true then (if 0 ≤ x2 then (if x2 < (x1000.length : Int) then (impl_Tree_isAbove.l0 k x1 ((rd_T41 x1000 x2).f4) x11 (wrap64 (x12 + 1)) x1000) else (none)) else (none)) else (some false)))) else ((impl_Tree_isNode.f x1000 x2).bind fun t101 => (some t101))
def impl_Tree_isAbove.f (k : Nat) (s0_0 : List (S41)) (a1 : Int) (a2 : Int) : Option (Bool) := impl_Tree_isAbove.l0 k a1 a2 (s0_0.length : Int) 0 s0_0
theorem impl_Tree_isAbove.mono_l : ∀ k, (∀ y0 y1 y2 y3 y4, LeO (impl_Tree_isAbove.l0 k y0 y1 y2 y3 y4) (impl_Tree_isAbove.l0 (k + 1) y0 y1 y2 y3 y4))
 | 0 => fun _ _ _ _ _ r h => by simp [impl_Tree_isAbove.l0] at h
 | k + 1 => by
  have ih0 := impl_Tree_isAbove.mono_l k
  ·intro y0 y1 y2 y3 y4
   unfold impl_Tree_isAbove.l0
   repeat' (with_reducible first | exact ih0 _ _ _ _ _ | exact LeO.refl _ | exact LeO.none _ | refine LeO.ite ?_ ?_ | refine LeO.bind ?_ (fun _ => ?_))
theorem impl_Tree_isAbove.mono : ∀ a0 a1 a2 k, LeO (impl_Tree_isAbove.f k a0 a1 a2) (impl_Tree_isAbove.f (k + 1) a0 a1 a2) := by
 intro a0 a1 a2 k
 have ih0 := impl_Tree_isAbove.mono_l k
 unfold impl_Tree_isAbove.f
 repeat' (with_reducible first | exact ih0 _ _ _ _ _ | exact LeO.refl _ | exact LeO.none _ | refine LeO.ite ?_ ?_ | refine LeO.bind ?_ (fun _ => ?_))
theorem impl_Tree_isAbove.calls (k : Nat) (g : Nat) (s0_0 : List (S41)) (a1 : Int) (a2 : Int) (r : Bool) (w0 w : World) (hI : IsS29 w0 w g s0_0) (hB : Below w0.heap.size w0 w) (h : impl_Tree_isAbove.f k s0_0 a1 a2 = some r) :
 Calls Tryz.prog 58 #[.pointer (some ⟨g, 0, none⟩), .int .i64 a1, .int .i64 a2] w fun e w' => e = .returned (.bool r) ∧ IsS29 w0 w' g s0_0 ∧ Below w0.heap.size w0 w' ∧ KeepBut w w' g none := by
 have HI0 := Ak hI
 have HK := Ak (KeepBut.refl w g none)
 have HL := Ak hB.size
 clear hI
 have HW0 := Ak hB.size
 have HB := Ak hB
 clear hB
 have H : (impl_Tree_isAbove.l0 k a1 a2 (s0_0.length : Int) 0 s0_0) = some r := h
 clear h
 have H' := Ak H
 clear H
 obtain ⟨ASz4_0, cSz4_0, HGz4, hgz4, HSz4_0⟩ := HI0.out
 have hcz4_0 := cellS29_0 HGz4
 clear HGz4 hgz4
 go_enter Tryz.func58, Tryz.ntmps58
 go_wp2
 go_loopg [2, 12] k (fun kq v2 v12 w' => ∃ (x2_1 : Int) (x12_1 : Int), v2 = .int .i64 x2_1 ∧ v12 = .int .i64 x12_1 ∧ Aside0 (impl_Tree_isAbove.l0 kq a1 x2_1 (s0_0.length : Int) x12_1 s0_0 = some r) ∧ Aside0 (kq ≤ k) ∧ Aside0 (IsS29 w0 w' g s0_0) ∧ Aside0 (KeepBut w w' g none) ∧ Aside0 (Below w0.heap.size w0 w'))
 case atStart => exact ⟨(a2), (0), rfl, rfl, H', ⟨Nat.le_refl _⟩, ⟨HI0.out⟩, ⟨HK.out⟩, ⟨by repeat (first | exact HB.out | apply below_alloc | apply pw_below_drewN | apply below_drew1 | refine below_set ?_ (IsS29.ge HI0.out))⟩⟩
 case round =>
  clear H'
  try clear p2
  try clear hcz4_0
  obtain ⟨x2_1, x12_1, rfl, rfl, HA, HK1, HI0, HK, HB⟩ := hrel
  cases gk with
  | zero => exact absurd HA.out (by simp [impl_Tree_isAbove.l0])
  | succ k1 =>
   have H := HA.out
   clear HA
   simp only [impl_Tree_isAbove.l0] at H
   by_cases c5 : x12_1 < (s0_0.length : Int)
   ·rw [if_pos c5] at H
    have c5b0 := decide_eq_true c5
    clear c5
    by_cases c6 : x2_1 = a1
    ·rw [if_pos c6] at H
     have c6b0 := beq_iff_eq.mpr c6
     have c6b1 := bne_eq_false_iff_eq.mpr c6
     clear c6
     obtain rfl := Oi H
     go_wp2
     go_ret
     exact ⟨rfl, HI0.out, by repeat (first | exact HB.out | apply below_alloc | apply pw_below_drewN | apply below_drew1 | refine below_set ?_ (IsS29.ge HI0.out)), HK.out⟩
    ·rw [if_neg c6] at H
     have c6b0 := beq_eq_false_iff_ne.mpr c6
     have c6b1 := bne_iff_ne.mpr c6
     replace H := Ob H
     obtain ⟨t102, A70, H⟩ := H
     replace H : (if t102 = true then (if 0 ≤ x2_1 then (if x2_1 < (s0_0.length : Int) then (impl_Tree_isAbove.l0 k1 a1 ((rd_T41 s0_0 x2_1).f4) (s0_0.length : Int) (wrap64 (x12_1 + 1)) s0_0) else (none)) else (none)) else (some false)) = some r := H
     have A7 := Ak A70
     clear A70
     by_cases c8 : t102 = true
     ·subst c8
      rw [if_pos rfl] at H
      by_cases c9 : 0 ≤ x2_1
      ·rw [if_pos c9] at H
       have c9b0 := decide_eq_true c9
       clear c9
       by_cases c10 : x2_1 < (s0_0.length : Int)
       ·rw [if_pos c10] at H
        have c10b0 := decide_eq_true c10
        clear c10
        have H' := Ak H
        clear H
        go_wp2_with (first | (go_at_call 33; (with_reducible refine (impl_Tree_isNode.calls g s0_0 x2_1 true w0 _ ?side1 ?side2 A7.out).mono ?_); (case side1 => repeat (first | (with_reducible first | exact HI0.out | apply IsS29.alloc | apply IsS29.drewN | apply IsS29.drew) | exact HI0.out)); (case side2 => repeat (first | (with_reducible first | exact HB.out | apply below_alloc | apply pw_below_drewN | apply below_drew1 | refine below_set ?_ (IsS29.ge HI0.out)) | exact HB.out)); rintro e w11 ⟨rfl, hi, hb, hk⟩; replace HK := Ak (KeepBut.trans (HK.out) hk (.inl rfl)); replace HI0 := Ak (hi); replace HB := Ak (hb); (try clear hb); obtain ⟨ASz12_0, cSz12_0, HGz12, hgz12, HSz12_0⟩ := HI0.out; have hcz12_0 := cellS29_0 HGz12; clear HGz12 hgz12; have p103 : 0 ≤ (x2_1 : Int) := of_decide_eq_true (by assumption); have q103 : x2_1 < (s0_0.length : Int) := of_decide_eq_true (by assumption); obtain ⟨ad103, A103_2, c103_2, A103_5, c103_5, e103, hx103_0, hx103_1, hx103_2, hx103_3, hx103_4, hx103_5, hl103_2, hi103_2, hl103_5, hi103_5⟩ := at_T41 HSz12_0 x2_1 p103 q103; cases e103; replace hx103_0 := pw_cell_below HB.out hx103_0; replace hx103_1 := pw_cell_below HB.out hx103_1; replace hx103_2 := pw_cell_below HB.out hx103_2; replace hx103_3 := pw_cell_below HB.out hx103_3; replace hx103_4 := pw_cell_below HB.out hx103_4; replace hx103_5 := pw_cell_below HB.out hx103_5; have HR103_2 := Ak hi103_2; have HC103_2 := Ak hl103_2; clear hi103_2 hl103_2; have HR103_5 := Ak hi103_5; have HC103_5 := Ak hl103_5; clear hi103_5 hl103_5; replace p103 := eq_true p103; replace q103 := eq_true q103))
        go_roundg k1
        case measure => have := HK1.out; omega
        case rel => exact ⟨((rd_T41 s0_0 x2_1).f4), (wrap64 (x12_1 + 1)), rfl, rfl, H', ⟨by have := HK1.out; omega⟩, ⟨HI0.out⟩, ⟨HK.out⟩, ⟨by repeat (first | exact HB.out | apply below_alloc | apply pw_below_drewN | apply below_drew1 | refine below_set ?_ (IsS29.ge HI0.out))⟩⟩
       ·rw [if_neg c10] at H
        exact absurd H (by simp)
      ·rw [if_neg c9] at H
       exact absurd H (by simp)
     ·replace c8 := Bool.eq_false_iff.mpr c8
      subst c8
      rw [if_neg (show ¬ (false = true) by decide)] at H
      obtain rfl := Oi H
      go_wp2_with (first | (go_at_call 33; (with_reducible refine (impl_Tree_isNode.calls g s0_0 x2_1 false w0 _ ?side1 ?side2 A7.out).mono ?_); (case side1 => repeat (first | (with_reducible first | exact HI0.out | apply IsS29.alloc | apply IsS29.drewN | apply IsS29.drew) | exact HI0.out)); (case side2 => repeat (first | (with_reducible first | exact HB.out | apply below_alloc | apply pw_below_drewN | apply below_drew1 | refine below_set ?_ (IsS29.ge HI0.out)) | exact HB.out)); rintro e w13 ⟨rfl, hi, hb, hk⟩; replace HK := Ak (KeepBut.trans (HK.out) hk (.inl rfl)); replace HI0 := Ak (hi); replace HB := Ak (hb); (try clear hb)))
      go_ret
      exact ⟨rfl, HI0.out, by repeat (first | exact HB.out | apply below_alloc | apply pw_below_drewN | apply below_drew1 | refine below_set ?_ (IsS29.ge HI0.out)), HK.out⟩
   ·rw [if_neg c5] at H
    have c5b0 := decide_eq_false c5
    clear c5
    replace H := Ob H
    obtain ⟨t101, A140, H⟩ := H
    replace H : (some t101) = some r := H
    have A14 := Ak A140
    clear A140
    obtain rfl := Oi H
    go_wp2_with (first | (go_at_call 33; (with_reducible refine (impl_Tree_isNode.calls g s0_0 x2_1 t101 w0 _ ?side1 ?side2 A14.out).mono ?_); (case side1 => repeat (first | (with_reducible first | exact HI0.out | apply IsS29.alloc | apply IsS29.drewN | apply IsS29.drew) | exact HI0.out)); (case side2 => repeat (first | (with_reducible first | exact HB.out | apply below_alloc | apply pw_below_drewN | apply below_drew1 | refine below_set ?_ (IsS29.ge HI0.out)) | exact HB.out)); rintro e w15 ⟨rfl, hi, hb, hk⟩; replace HK := Ak (KeepBut.trans (HK.out) hk (.inl rfl)); replace HI0 := Ak (hi); replace HB := Ak (hb); (try clear hb)))
    go_ret
    exact ⟨rfl, HI0.out, by repeat (first | exact HB.out | apply below_alloc | apply pw_below_drewN | apply below_drew1 | refine below_set ?_ (IsS29.ge HI0.out)), HK.out⟩
theorem impl_Tree_isNode.quiet (g : Nat) (A : Option Addr) (c : Nat) (xs : List S41) (a1 : Int) (r : Bool) (w : World) (hb : w.cell? ⟨g, 0, none⟩ = some (.slice A xs.length c)) (h : impl_Tree_isNode.f xs a1 = some r) :
 Calls Tryz.prog 33 #[.pointer (some ⟨g, 0, none⟩), .int .i64 a1] w fun e w' => e = .returned (.bool r) ∧ Drawn0 w w' := by
 unfold impl_Tree_isNode.f at h
 replace h := Ob h
 obtain ⟨t, A3, h⟩ := h
 obtain rfl := Oi h
 clear h
 replace A3 := Ak A3
 go_enter Tryz.func33, Tryz.ntmps33
 go_wp2_with (first | (go_at_call 30; (with_reducible refine (impl_inRange.calls a1 0 (wrap64 ((xs.length : Int) - 1)) t _ A3.out).mono ?_); rintro e w' ⟨rfl, ⟨nd, rfl⟩⟩))
 go_ret
 exact ⟨rfl, by repeat (first | exact Drawn0.refl _ | apply Drawn0.step)⟩
theorem impl_Tree_isAbove.quiet (k g : Nat) (A : Option Addr) (c : Nat) (xs : List S41) (a1 a2 : Int) (r : Bool) (w : World) (hb : w.cell? ⟨g, 0, none⟩ = some (.slice A xs.length c)) (hC : Kd.C k41 w A xs.length xs) (h : impl_Tree_isAbove.f k xs a1 a2 = some r) :
 Calls Tryz.prog 58 #[.pointer (some ⟨g, 0, none⟩), .int .i64 a1, .int .i64 a2] w fun e w' => e = .returned (.bool r) ∧ Drawn0 w w' := by
 have HC := Ak hC
 have HA := Ak (show impl_Tree_isAbove.l0 k a1 a2 (xs.length : Int) 0 xs = some r from h)
 clear hC h
 go_enter Tryz.func58, Tryz.ntmps58
 go_wp2
 go_loopg [2, 12] k (fun kq v2 v12 w' => ∃ (x2 : Int) (x12 : Int), v2 = .int .i64 x2 ∧ v12 = .int .i64 x12 ∧ Aside0 (impl_Tree_isAbove.l0 kq a1 x2 (xs.length : Int) x12 xs = some r) ∧ Aside0 (kq ≤ k) ∧ Drawn0 w w')
 case atStart => exact ⟨a2, 0, rfl, rfl, HA, ⟨Nat.le_refl _⟩, by repeat (first | exact Drawn0.refl _ | apply Drawn0.step)⟩
 case round =>
  clear HA
  obtain ⟨x2, x12, rfl, rfl, HA, HK, ⟨m1, rfl⟩⟩ := hrel
  have hbq := fun n : Nat => (show (w.drewN n).cell? ⟨g, 0, none⟩ = some (.slice A xs.length c) from hb)
  cases gk with
  | zero => exact absurd HA.out (by simp [impl_Tree_isAbove.l0])
  | succ k1 =>
   have H := HA.out
   clear HA
   simp only [impl_Tree_isAbove.l0] at H
   by_cases c5 : x12 < (xs.length : Int)
   ·rw [if_pos c5] at H
    have c5b : decide (x12 < (xs.length : Int)) = true := decide_eq_true c5
    clear c5
    by_cases c6 : x2 = a1
    ·rw [if_pos c6] at H
     have c6b : (x2 == a1) = true := beq_iff_eq.mpr c6
     clear c6
     obtain rfl := Oi H
     clear H
     go_wp2
     go_ret
     exact ⟨rfl, by repeat (first | exact Drawn0.refl _ | apply Drawn0.step)⟩
    ·rw [if_neg c6] at H
     have c6b : (x2 == a1) = false := beq_eq_false_iff_ne.mpr c6
     clear c6
     replace H := Ob H
     obtain ⟨t, A7, H⟩ := H
     replace A7 := Ak A7
     cases t with
     | true =>
      rw [if_pos rfl] at H
      by_cases c9 : 0 ≤ x2
      ·rw [if_pos c9] at H
       by_cases c10 : x2 < (xs.length : Int)
       ·rw [if_pos c10] at H
        have H' := Ak H
        clear H
        obtain ⟨ad, A_2, c_2, A_5, c_5, e1, hx0, hx1, hx2, hx3, hx4, hx5, hl2, hi2, hl5, hi5⟩ := at_T41 HC.out x2 c9 c10
        subst e1
        clear hx0 hx1 hx2 hx3 hx5 hl2 hi2 hl5 hi5
        replace c9 := eq_true c9
        replace c10 := eq_true c10
        go_wp2_with (first | (go_at_call 33; (with_reducible refine (impl_Tree_isNode.quiet g _ c xs x2 true _ (hbq _) A7.out).mono ?_); rintro e w' ⟨rfl, ⟨nd, rfl⟩⟩))
        go_roundg k1
        case measure => have := HK.out; omega
        case rel => exact ⟨_, _, rfl, rfl, H', ⟨by have := HK.out; omega⟩, by repeat (first | exact Drawn0.refl _ | apply Drawn0.step)⟩
       ·rw [if_neg c10] at H; cases H
      ·rw [if_neg c9] at H; cases H
     | false =>
      rw [if_neg (by decide)] at H
      obtain rfl := Oi H
      clear H
      go_wp2_with (first | (go_at_call 33; (with_reducible refine (impl_Tree_isNode.quiet g _ c xs x2 false _ (hbq _) A7.out).mono ?_); rintro e w' ⟨rfl, ⟨nd, rfl⟩⟩))
      go_ret
      exact ⟨rfl, by repeat (first | exact Drawn0.refl _ | apply Drawn0.step)⟩
   ·rw [if_neg c5] at H
    have c5b : decide (x12 < (xs.length : Int)) = false := decide_eq_false c5
    clear c5
    replace H := Ob H
    obtain ⟨t, A7, H⟩ := H
    obtain rfl := Oi H
    clear H
    replace A7 := Ak A7
    go_wp2_with (first | (go_at_call 33; (with_reducible refine (impl_Tree_isNode.quiet g _ c xs x2 t _ (hbq _) A7.out).mono ?_); rintro e w' ⟨rfl, ⟨nd, rfl⟩⟩))
    go_ret
    exact ⟨rfl, by repeat (first | exact Drawn0.refl _ | apply Drawn0.step)⟩
mutual
def impl_Tree_linksOk.l0 : Nat → Int → List Int → List S41 → Option Bool
 | 0, _, _, _ => none
 | k + 1, i, s, xs => if i < (xs.length : Int) then (if 0 ≤ i then impl_Tree_linksOk.l1 k i 0 s xs else none) else impl_Tree_linksOk.l2 k 0 s xs
def impl_Tree_linksOk.l1 : Nat → Int → Int → List Int → List S41 → Option Bool
 | 0, _, _, _, _ => none
 | k + 1, i, j, s, xs => if j < ((rd_T41 xs i).f5.length : Int) then (if 0 ≤ j then ((impl_Tree_isNode.f xs (rd (rd_T41 xs i).f5 j)).bind fun t => if t = true then (if 0 ≤ rd (rd_T41 xs i).f5 j then (if rd (rd_T41 xs i).f5 j < (xs.length : Int) then (if (rd_T41 xs (rd (rd_T41 xs i).f5 j)).f4 = i then (if 0 < rd s (rd (rd_T41 xs i).f5 j) then some false else impl_Tree_linksOk.l1 k i (wrap64 (j + 1)) (s.set (rd (rd_T41 xs i).f5 j).toNat (wrap64 (rd s (rd (rd_T41 xs i).f5 j) + 1))) xs) else some false) else none) else none) else some false) else none) else impl_Tree_linksOk.l0 k (wrap64 (i + 1)) s xs
def impl_Tree_linksOk.l2 : Nat → Int → List Int → List S41 → Option Bool
 | 0, _, _, _ => none
 | k + 1, i, s, xs => if i < (xs.length : Int) then (if 0 ≤ i then (if (((rd_T41 xs i).f4 == -1) == decide (0 < rd s i)) = true then some false else (impl_Tree_isAbove.f k xs i (rd_T41 xs i).f4).bind fun t => if t = true then some false else impl_Tree_linksOk.l2 k (wrap64 (i + 1)) s xs) else none) else some true
end
def impl_Tree_linksOk.f (k : Nat) (xs : List S41) : Option Bool := if 0 < xs.length then (if xs.length ≤ 500 then impl_Tree_linksOk.l0 k 0 (List.replicate xs.length 0) xs else none) else none
theorem impl_Tree_linksOk.mono_l : ∀ k, (∀ y0 y1 y2, LeO (impl_Tree_linksOk.l0 k y0 y1 y2) (impl_Tree_linksOk.l0 (k + 1) y0 y1 y2)) ∧ (∀ y0 y1 y2 y3, LeO (impl_Tree_linksOk.l1 k y0 y1 y2 y3) (impl_Tree_linksOk.l1 (k + 1) y0 y1 y2 y3)) ∧ (∀ y0 y1 y2, LeO (impl_Tree_linksOk.l2 k y0 y1 y2) (impl_Tree_linksOk.l2 (k + 1) y0 y1 y2))
 | 0 => ⟨fun _ _ _ r h => by simp [impl_Tree_linksOk.l0] at h, fun _ _ _ _ r h => by simp [impl_Tree_linksOk.l1] at h, fun _ _ _ r h => by simp [impl_Tree_linksOk.l2] at h⟩
 | k + 1 => by
  obtain ⟨ih0, ih1, ih2⟩ := impl_Tree_linksOk.mono_l k
  refine ⟨?_, ?_, ?_⟩
  ·intro y0 y1 y2
   rw [impl_Tree_linksOk.l0, impl_Tree_linksOk.l0]
   exact LeO.ite (LeO.ite (ih1 _ _ _ _) (LeO.refl _)) (ih2 _ _ _)
  ·intro y0 y1 y2 y3
   rw [impl_Tree_linksOk.l1, impl_Tree_linksOk.l1]
   exact LeO.ite (LeO.ite (LeO.bind (LeO.refl _) (fun _ => LeO.ite (LeO.ite (LeO.ite (LeO.ite (LeO.ite (LeO.refl _) (ih1 _ _ _ _)) (LeO.refl _)) (LeO.refl _)) (LeO.refl _)) (LeO.refl _))) (LeO.refl _)) (ih0 _ _ _)
  ·intro y0 y1 y2
   rw [impl_Tree_linksOk.l2, impl_Tree_linksOk.l2]
   exact LeO.ite (LeO.ite (LeO.ite (LeO.refl _) (LeO.bind (impl_Tree_isAbove.mono _ _ _ _) (fun _ => LeO.ite (LeO.refl _) (ih2 _ _ _)))) (LeO.refl _)) (LeO.refl _)
theorem impl_Tree_linksOk.mono : ∀ a0 k, LeO (impl_Tree_linksOk.f k a0) (impl_Tree_linksOk.f (k + 1) a0) := fun a0 k => LeO.ite (LeO.ite ((impl_Tree_linksOk.mono_l k).1 _ _ _) (LeO.refl _)) (LeO.refl _)
structure LinksW (w W : World) (g gs n cap : Nat) (A : Option Addr) (c m : Nat) (s : List Int) : Prop where
 cell : W.cell? ⟨g, 0, none⟩ = some (.slice A m c)
 row : Kd.R (Kd.int .i64) 3 W w.heap.size (fun k => k = gs) (.slice (some ⟨gs, 0, none⟩) n cap) s
 low : Below w.heap.size w W
section
variable {w W W2 : World} {g gs n cap : Nat} {A : Option Addr} {c m : Nat} {s : List Int}
theorem LinksW.below (h : LinksW w W g gs n cap A c m s) (hb : Below W.heap.size W W2) : LinksW w W2 g gs n cap A c m s := ⟨pw_cell_below hb h.cell, Kd.R_below h.row hb, below_step h.low hb⟩
theorem LinksW.drewN (h : LinksW w W g gs n cap A c m s) (k : Nat) : LinksW w (W.drewN k) g gs n cap A c m s := ⟨h.cell, Kd.R_drewN h.row k, pw_below_drewN h.low k⟩
theorem LinksW.put (h : LinksW w W g gs n cap A c m s) (hg : g < w.heap.size) (i x : Int) : LinksW w (W.setCell ⟨gs, i.toNat, none⟩ (.int .i64 x)) g gs n cap A c m (s.set i.toNat x) := by
 have hgs : w.heap.size ≤ gs := Kd.R_base h.row gs rfl
 exact ⟨(cell_far (p := ⟨gs, i.toNat, none⟩) (show g ≠ gs by omega) _).trans h.cell, Kd.R_putn h.row i x, below_set h.low hgs⟩
theorem LinksW.far (h : LinksW w W g gs n cap A c m s) (hg : g < w.heap.size) {gb : Nat} (hb : w.heap.size ≤ gb) (hne : gb ≠ gs) (j : Nat) (u : Value) : LinksW w (W.setCell ⟨gb, j, none⟩ u) g gs n cap A c m s :=
 ⟨(cell_far (p := ⟨gb, j, none⟩) (show g ≠ gb by omega) _).trans h.cell, Kd.R_far (p := ⟨gb, j, none⟩) h.row (fun k hk => by show k ≠ gb; omega) u, below_set h.low hb⟩
theorem LinksW.fill (h : LinksW w W g gs n cap A c m s) (hg : g < w.heap.size) {gb : Nat} (hb : w.heap.size ≤ gb) (hne : gb ≠ gs) (x : S41) (v2 v5 : Value) : LinksW w (fillN W gb x v2 v5) g gs n cap A c m s :=
 (((((h.far hg hb hne 0 _).far hg hb hne 1 _).far hg hb hne 2 _).far hg hb hne 3 _).far hg hb hne 4 _).far hg hb hne 5 _
end
theorem impl_Tree_linksOk.calls (k : Nat) (g : Nat) (xs : List S41) (r : Bool) (w0 w : World) (hI : IsS29 w0 w g xs) (hB : Below w0.heap.size w0 w) (h : impl_Tree_linksOk.f k xs = some r) :
 Calls Tryz.prog 32 #[.pointer (some ⟨g, 0, none⟩)] w fun e w' => e = .returned (.bool r) ∧ IsS29 w0 w' g xs ∧ Below w0.heap.size w0 w' ∧ KeepBut w w' g none := by
 have HI := Ak hI
 have HB0 := Ak hB
 suffices hx : Calls Tryz.prog 32 #[.pointer (some ⟨g, 0, none⟩)] w fun e w' => e = .returned (.bool r) ∧ Below w.heap.size w w' by
  refine hx.mono ?_
  rintro e w' ⟨rfl, hb⟩
  exact ⟨rfl, IsS29.below hI hb, below_step hB hb, KeepBut.of_below hb g none⟩
 obtain ⟨A, c, hblk, hg, hC0⟩ := hI
 have hc0 := cellS29_0 hblk
 have HC := Ak (Kd.C_below hC0 hB)
 have HG := Ak (blk_lt hblk)
 clear hB hblk hg hC0
 unfold impl_Tree_linksOk.f at h
 by_cases hn0 : 0 < xs.length
 ·rw [if_pos hn0] at h
  by_cases hn1 : xs.length ≤ 500
  ·rw [if_pos hn1] at h
   have HA := Ak h
   have HN0 := Ak hn0
   have HN1 := Ak hn1
   clear h hn0 hn1
   go_enter Tryz.func32, Tryz.ntmps32
   go_wp2_with (first | ((with_reducible refine gate_dst (N := 15) rfl ?_); refine Kd.R_make (w0 := w) (Kd.int .i64) w.heap.size 3 rfl (N := 15) rfl 39 _ _ rfl (xs.length : Int) rfl rfl Tryz.underlying39 (.int .i64 0) 8 info3 rfl (by decide) (by omega) 0 (ok := fun _ => True) (okp := fun _ => True) rfl (fun _ hk => hk) trivial (by omega) (by have := HN1.out; omega) (Below.refl _ _) (Nat.le_refl _) ?_; intro vs w1 ho hb hg_ hnew_; clear hg_ hnew_; rw [Int.toNat_natCast] at ho; obtain ⟨gs, cap, ev, _, _, _⟩ := Kd.R_form ho (by have := HN0.out; rw [List.length_replicate]; exact this); rw [List.length_replicate] at ev; subst ev; have HL := Ak (show LinksW w w1 g gs xs.length cap A c xs.length (List.replicate xs.length 0) from ⟨pw_cell_below hb hc0, Kd.R_mono (Kd.R_tight rfl ho) (fun k_ hk => by simpa [Value.ownBlock] using hk), hb⟩); have hc1 := HL.out.cell; clear ho hb))
   go_loopg [21] k (fun kq v21 w' => ∃ (i : Int) (s : List Int), v21 = .int .i64 i ∧ Aside0 (impl_Tree_linksOk.l0 kq i s xs = some r) ∧ Aside0 (kq ≤ k) ∧ Aside0 (LinksW w w' g gs xs.length cap A c xs.length s))
   case atStart => exact ⟨0, _, rfl, HA, ⟨Nat.le_refl _⟩, HL⟩
   case round =>
    clear HA HL hc1 hc0
    obtain ⟨i, s, rfl, HA, HK, HL⟩ := hrel
    cases gk with
    | zero => exact absurd HA.out (by simp [impl_Tree_linksOk.l0])
    | succ k1 =>
     have H := HA.out
     clear HA
     simp only [impl_Tree_linksOk.l0] at H
     by_cases c1 : i < (xs.length : Int)
     ·rw [if_pos c1] at H
      by_cases c2 : 0 ≤ i
      ·rw [if_pos c2] at H
       have HA := Ak H
       clear H
       have c1b : decide (i < (xs.length : Int)) = true := decide_eq_true c1
       obtain ⟨ad, A_2, c_2, A_5, c_5, e1, hx0, hx1, hx2, hx3, hx4, hx5, hl2, hi2, hl5, hi5⟩ := at_T41 HC.out i c2 c1
       subst e1
       replace hx0 := pw_cell_below HL.out.low hx0
       replace hx1 := pw_cell_below HL.out.low hx1
       replace hx2 := pw_cell_below HL.out.low hx2
       replace hx3 := pw_cell_below HL.out.low hx3
       replace hx4 := pw_cell_below HL.out.low hx4
       replace hx5 := pw_cell_below HL.out.low hx5
       have HI5 := Ak hi5
       clear hl2 hi2 hl5 hi5
       replace c2 := eq_true c2
       replace c1 := eq_true c1
       go_upto_region 5 with (first | ((with_reducible refine gate_dst (N := 5) rfl ?_); refine box_event ?hg (N := 5) ?hd (cs := #[.int .i64 0, .string (⟨#[]⟩ : ByteArray), .slice none 0 0, .string (⟨#[]⟩ : ByteArray), .int .i64 0, .slice none 0 0]) (t := 41) ?hr ?_; (case hd => rfl); (case hg => rfl); (case hr => first | (go_simp; done) | (go_simp; rfl)); intro gb hg w2 hbox hb; have HNE := Ak (show gb ≠ gs by have := Kd.R_lt HL.out.row gs rfl; omega); have HL2 := Ak (HL.out.below hb); have HGB := Ak (show w.heap.size ≤ gb by rw [hg]; exact below_size HL.out.low); have HBX := Ak hbox; have hz0 := blk_cell hbox 0; have hz1 := blk_cell hbox 1; have hz2 := blk_cell hbox 2; have hz3 := blk_cell hbox 3; have hz4 := blk_cell hbox 4; have hz5 := blk_cell hbox 5; have hf := blk_frozen hbox; clear hbox hb hg HL))
       have HB6 := Ak (fillN_blk (rd_T41 xs i) (.slice A_2 (rd_T41 xs i).f2.length c_2) (.slice A_5 (rd_T41 xs i).f5.length c_5) HBX.out)
       have HL := Ak (HL2.out.fill HG.out HGB.out HNE.out (rd_T41 xs i) (.slice A_2 (rd_T41 xs i).f2.length c_2) (.slice A_5 (rd_T41 xs i).f5.length c_5))
       show Code.wp _ _ _ _ (fillN w2 gb (rd_T41 xs i) (.slice A_2 (rd_T41 xs i).f2.length c_2) (.slice A_5 (rd_T41 xs i).f5.length c_5))
       generalize fillN w2 gb (rd_T41 xs i) (.slice A_2 (rd_T41 xs i).f2.length c_2) (.slice A_5 (rd_T41 xs i).f5.length c_5) = w3 at HB6 HL ⊢
       clear hz0 hz1 hz2 hz3 hz4 hz5 hf HBX HL2 hx0 hx1 hx2 hx3 hx4 hx5 HNE HGB
       have hz5 := blk_cell HB6.out 5
       go_wp2
       go_loopg [29] k1 (fun kq v29 w' => ∃ (j : Int) (s : List Int), v29 = .int .i64 j ∧ Aside0 (impl_Tree_linksOk.l1 kq i j s xs = some r) ∧ Aside0 (kq ≤ k1) ∧ Aside0 (LinksW w w' g gs xs.length cap (some ad) c xs.length s))
       case atStart => exact ⟨0, _, rfl, HA, ⟨Nat.le_refl _⟩, HL⟩
       case round =>
        clear HA HL hz5 HB6
        obtain ⟨j, s, rfl, HA, HK2, HL⟩ := hrel
        cases gk with
        | zero => exact absurd HA.out (by simp [impl_Tree_linksOk.l1])
        | succ k2 =>
         have H := HA.out
         clear HA
         simp only [impl_Tree_linksOk.l1] at H
         by_cases c3 : j < ((rd_T41 xs i).f5.length : Int)
         ·rw [if_pos c3] at H
          by_cases c4 : 0 ≤ j
          ·rw [if_pos c4] at H
           obtain ⟨t, A1, H⟩ := Ob H
           replace A1 := Ak A1
           obtain ⟨ak, e2, hy0⟩ := Kd.at_int HI5.out j c4 c3
           subst e2
           replace hy0 := pw_cell_below HL.out.low hy0
           have hcg := HL.out.cell
           have c3b : decide (j < ((rd_T41 xs i).f5.length : Int)) = true := decide_eq_true c3
           replace c3 := eq_true c3
           replace c4 := eq_true c4
           obtain ⟨kid, hkid⟩ : ∃ q : Int, q = rd (rd_T41 xs i).f5 j := ⟨_, rfl⟩
           rw [← hkid] at hy0 H A1
           clear hkid
           cases t with
           | false =>
            rw [if_neg (by decide)] at H
            obtain rfl := Oi H
            clear H
            go_wp2_with (first | (go_at_call 33; (with_reducible refine (impl_Tree_isNode.quiet g _ c xs kid false _ hcg A1.out).mono ?_); rintro e w' ⟨rfl, ⟨nd, rfl⟩⟩))
            go_ret
            exact ⟨rfl, pw_below_drewN HL.out.low _⟩
           | true =>
            rw [if_pos rfl] at H
            by_cases c5 : 0 ≤ kid
            ·rw [if_pos c5] at H
             by_cases c6 : kid < (xs.length : Int)
             ·rw [if_pos c6] at H
              obtain ⟨ad', A_6, c_6, A_7, c_7, e3, hw0, hw1, hw2, hw3, hw4, hw5, hl6, hi6, hl7, hi7⟩ := at_T41 HC.out kid c5 c6
              injection e3 with e3
              subst e3
              replace hw4 := pw_cell_below HL.out.low hw4
              clear hw0 hw1 hw2 hw3 hw5 hl6 hi6 hl7 hi7
              have hs : wr.cell? ⟨gs, kid.toNat, none⟩ = some (.int .i64 (rd s kid)) := (Kd.R_celln 0 HL.out.row kid c5 c6).1
              have hsf : wr.frozen? ⟨gs, kid.toNat, none⟩ = false := (Kd.R_celln 0 HL.out.row kid c5 c6).2
              replace c5 := eq_true c5
              replace c6 := eq_true c6
              by_cases c7 : (rd_T41 xs kid).f4 = i
              ·rw [if_pos c7] at H
               have c7b : ((rd_T41 xs kid).f4 == i) = true := beq_iff_eq.mpr c7
               have c7c : ((rd_T41 xs kid).f4 != i) = false := bne_eq_false_iff_eq.mpr c7
               clear c7
               by_cases c8 : 0 < rd s kid
               ·rw [if_pos c8] at H
                obtain rfl := Oi H
                clear H
                have c8b : decide (0 < rd s kid) = true := decide_eq_true c8
                clear c8
                go_wp2_with (first | (go_at_call 33; (with_reducible refine (impl_Tree_isNode.quiet g _ c xs kid true _ hcg A1.out).mono ?_); rintro e w' ⟨rfl, ⟨nd, rfl⟩⟩))
                go_ret
                exact ⟨rfl, pw_below_drewN HL.out.low _⟩
               ·rw [if_neg c8] at H
                have HA := Ak H
                clear H
                have c8b : decide (0 < rd s kid) = false := decide_eq_false c8
                clear c8
                go_wp2_with (first | (go_at_call 33; (with_reducible refine (impl_Tree_isNode.quiet g _ c xs kid true _ hcg A1.out).mono ?_); rintro e w' ⟨rfl, ⟨nd, rfl⟩⟩))
                go_roundg k2
                case measure => have := HK.out; have := HK2.out; omega
                case rel => exact ⟨_, _, rfl, HA, ⟨by have := HK2.out; omega⟩, ⟨LinksW.put (LinksW.drewN HL.out _) HG.out kid _⟩⟩
              ·rw [if_neg c7] at H
               obtain rfl := Oi H
               clear H
               have c7b : ((rd_T41 xs kid).f4 == i) = false := beq_eq_false_iff_ne.mpr c7
               have c7c : ((rd_T41 xs kid).f4 != i) = true := bne_iff_ne.mpr c7
               clear c7
               go_wp2_with (first | (go_at_call 33; (with_reducible refine (impl_Tree_isNode.quiet g _ c xs kid true _ hcg A1.out).mono ?_); rintro e w' ⟨rfl, ⟨nd, rfl⟩⟩))
               go_ret
               exact ⟨rfl, pw_below_drewN HL.out.low _⟩
             ·rw [if_neg c6] at H; cases H
            ·rw [if_neg c5] at H; cases H
          ·rw [if_neg c4] at H; cases H
         ·rw [if_neg c3] at H
          have HA := Ak H
          clear H
          have c3b : decide (j < ((rd_T41 xs i).f5.length : Int)) = false := decide_eq_false c3
          clear c3
          go_wp2
          go_roundg k2
          case measure => have := HK.out; have := HK2.out; omega
          case rel => exact ⟨_, _, rfl, HA, ⟨by have := HK.out; have := HK2.out; omega⟩, HL⟩
      ·rw [if_neg c2] at H; cases H
     ·rw [if_neg c1] at H
      have HA := Ak H
      clear H
      have c1b : decide (i < (xs.length : Int)) = false := decide_eq_false c1
      clear c1
      have hcg := HL.out.cell
      go_wp2
      go_loopg [69] k1 (fun kq v69 w' => ∃ (i : Int), v69 = .int .i64 i ∧ Aside0 (impl_Tree_linksOk.l2 kq i s xs = some r) ∧ Aside0 (kq ≤ k1) ∧ Aside0 (LinksW w w' g gs xs.length cap A c xs.length s))
      case atStart => exact ⟨0, rfl, HA, ⟨Nat.le_refl _⟩, HL⟩
      case round =>
       clear HA HL hcg c1b
       obtain ⟨i, rfl, HA, HK2, HL⟩ := hrel
       cases gk with
       | zero => exact absurd HA.out (by simp [impl_Tree_linksOk.l2])
       | succ k2 =>
        have H := HA.out
        clear HA
        simp only [impl_Tree_linksOk.l2] at H
        by_cases c1 : i < (xs.length : Int)
        ·rw [if_pos c1] at H
         by_cases c2 : 0 ≤ i
         ·rw [if_pos c2] at H
          have c1b : decide (i < (xs.length : Int)) = true := decide_eq_true c1
          obtain ⟨ad, A_2, c_2, A_5, c_5, e1, hx0, hx1, hx2, hx3, hx4, hx5, hl2, hi2, hl5, hi5⟩ := at_T41 HC.out i c2 c1
          subst e1
          replace hx0 := pw_cell_below HL.out.low hx0
          replace hx1 := pw_cell_below HL.out.low hx1
          replace hx2 := pw_cell_below HL.out.low hx2
          replace hx3 := pw_cell_below HL.out.low hx3
          replace hx4 := pw_cell_below HL.out.low hx4
          replace hx5 := pw_cell_below HL.out.low hx5
          clear hl2 hi2 hl5 hi5
          have C1 := Ak c1
          have C2 := Ak c2
          replace c2 := eq_true c2
          replace c1 := eq_true c1
          go_upto_region 16 with (first | ((with_reducible refine gate_dst (N := 9) rfl ?_); refine box_event ?hg (N := 9) ?hd (cs := #[.int .i64 0, .string (⟨#[]⟩ : ByteArray), .slice none 0 0, .string (⟨#[]⟩ : ByteArray), .int .i64 0, .slice none 0 0]) (t := 41) ?hr ?_; (case hd => rfl); (case hg => rfl); (case hr => first | (go_simp; done) | (go_simp; rfl)); intro gb hg w2 hbox hb; have HNE := Ak (show gb ≠ gs by have := Kd.R_lt HL.out.row gs rfl; omega); have HL2 := Ak (HL.out.below hb); have HGB := Ak (show w.heap.size ≤ gb by rw [hg]; exact below_size HL.out.low); have HBX := Ak hbox; have hz0 := blk_cell hbox 0; have hz1 := blk_cell hbox 1; have hz2 := blk_cell hbox 2; have hz3 := blk_cell hbox 3; have hz4 := blk_cell hbox 4; have hz5 := blk_cell hbox 5; have hf := blk_frozen hbox; clear hbox hb hg HL))
          have HB6 := Ak (fillN_blk (rd_T41 xs i) (.slice A_2 (rd_T41 xs i).f2.length c_2) (.slice A_5 (rd_T41 xs i).f5.length c_5) HBX.out)
          have HL := Ak (HL2.out.fill HG.out HGB.out HNE.out (rd_T41 xs i) (.slice A_2 (rd_T41 xs i).f2.length c_2) (.slice A_5 (rd_T41 xs i).f5.length c_5))
          show Code.wp _ _ _ _ (fillN w2 gb (rd_T41 xs i) (.slice A_2 (rd_T41 xs i).f2.length c_2) (.slice A_5 (rd_T41 xs i).f5.length c_5))
          generalize fillN w2 gb (rd_T41 xs i) (.slice A_2 (rd_T41 xs i).f2.length c_2) (.slice A_5 (rd_T41 xs i).f5.length c_5) = w3 at HB6 HL ⊢
          clear hz0 hz1 hz2 hz3 hz4 hz5 hf HBX HL2 hx0 hx1 hx2 hx3 hx4 hx5 HNE HGB
          have hz4 := blk_cell HB6.out 4
          have hcg := HL.out.cell
          have hs : w3.cell? ⟨gs, i.toNat, none⟩ = some (.int .i64 (rd s i)) := (Kd.R_celln 0 HL.out.row i C2.out C1.out).1
          have hCn := Kd.C_below HC.out HL.out.low
          cases eP : ((rd_T41 xs i).f4 == -1) == decide (0 < rd s i) with
          | true =>
           rw [if_pos eP] at H
           obtain rfl := Oi H
           clear H
           have eQ : decide (((rd_T41 xs i).f4 == -1) = decide (0 < rd s i)) = true := by simpa using eP
           go_quiet (fail)
           try go_wp2
           go_ret
           exact ⟨rfl, pw_below_drewN HL.out.low _⟩
          | false =>
           rw [if_neg (by rw [eP]; decide)] at H
           obtain ⟨t, A1, H⟩ := Ob H
           replace A1 := Ak A1
           cases t with
           | true =>
            rw [if_pos rfl] at H
            obtain rfl := Oi H
            clear H
            have eQ : decide (((rd_T41 xs i).f4 == -1) = decide (0 < rd s i)) = false := by simpa using eP
            go_quiet ((go_at_call 58; (with_reducible refine (impl_Tree_isAbove.quiet k2 g _ c xs i (rd_T41 xs i).f4 true _ (cell_at rfl hcg) (Kd.C_at rfl hCn) A1.out).mono ?_); rintro e w' ⟨rfl, ⟨nd, rfl⟩⟩; (first | exact ⟨rfl, _, rfl⟩ | exact ⟨rfl, _, World.drewN_drewN _ _ _⟩ | exact ⟨rfl, _, Eq.trans (World.drewN_drewN _ _ _) (congrArg (World.drewN _) (Nat.add_assoc _ _ _))⟩)))
            try go_wp2
            go_ret
            exact ⟨rfl, pw_below_drewN HL.out.low _⟩
           | false =>
            rw [if_neg (by decide)] at H
            have HA := Ak H
            clear H
            have eQ : decide (((rd_T41 xs i).f4 == -1) = decide (0 < rd s i)) = false := by simpa using eP
            go_quiet ((go_at_call 58; (with_reducible refine (impl_Tree_isAbove.quiet k2 g _ c xs i (rd_T41 xs i).f4 false _ (cell_at rfl hcg) (Kd.C_at rfl hCn) A1.out).mono ?_); rintro e w' ⟨rfl, ⟨nd, rfl⟩⟩; (first | exact ⟨rfl, _, rfl⟩ | exact ⟨rfl, _, World.drewN_drewN _ _ _⟩ | exact ⟨rfl, _, Eq.trans (World.drewN_drewN _ _ _) (congrArg (World.drewN _) (Nat.add_assoc _ _ _))⟩)))
            try go_wp2
            go_roundg k2
            case measure => have := HK2.out; omega
            case rel => exact ⟨_, rfl, HA, ⟨by have := HK2.out; omega⟩, ⟨LinksW.drewN HL.out _⟩⟩
         ·rw [if_neg c2] at H; cases H
        ·rw [if_neg c1] at H
         obtain rfl := Oi H
         clear H
         have c1b : decide (i < (xs.length : Int)) = false := decide_eq_false c1
         clear c1
         go_wp2
         go_ret
         exact ⟨rfl, HL.out.low⟩
  ·rw [if_neg hn1] at h; cases h
 ·rw [if_neg hn0] at h; cases h
def impl_TreeOk.l0 : Nat → Int → List S41 → Option Bool
 | 0, _, _ => none
 | k + 1, i, xs => if i < (xs.length : Int) then (if 0 ≤ i then ((impl_nodeOk.f k ((rd_T41 xs i).f0) ((rd_T41 xs i).f1) ((rd_T41 xs i).f2) ((rd_T41 xs i).f3) ((rd_T41 xs i).f4) ((rd_T41 xs i).f5) i).bind fun t => if t = true then impl_TreeOk.l0 k (wrap64 (i + 1)) xs else some false) else none) else impl_Tree_linksOk.f k xs
def impl_TreeOk.f (k : Nat) (xs : List S41) : Option Bool := (impl_inRange.f (xs.length : Int) 1 500).bind fun t => if t = true then impl_TreeOk.l0 k 0 xs else some false
theorem impl_TreeOk.mono_l : ∀ k, (∀ y0 y1, LeO (impl_TreeOk.l0 k y0 y1) (impl_TreeOk.l0 (k + 1) y0 y1))
 | 0 => fun _ _ r h => by simp [impl_TreeOk.l0] at h
 | k + 1 => by
  have ih := impl_TreeOk.mono_l k
  intro y0 y1
  rw [impl_TreeOk.l0, impl_TreeOk.l0]
  exact LeO.ite (LeO.ite (LeO.bind (impl_nodeOk.mono _ _ _ _ _ _ _ _) (fun _ => LeO.ite (ih _ _) (LeO.refl _))) (LeO.refl _)) (impl_Tree_linksOk.mono _ _)
theorem impl_TreeOk.mono : ∀ a0 k, LeO (impl_TreeOk.f k a0) (impl_TreeOk.f (k + 1) a0) := fun a0 k => LeO.bind (LeO.refl _) (fun _ => LeO.ite (impl_TreeOk.mono_l k _ _) (LeO.refl _))
theorem impl_TreeOk.calls (k : Nat) (A0_0 : Option Addr) (c0_0 : Nat) (l0_0 : List S41) (r : Bool) (w : World) (hr0_0 : Kd.C k41 w A0_0 l0_0.length l0_0) (hc0_0 : l0_0.length ≤ c0_0) (h : impl_TreeOk.f k l0_0 = some r) :
 Calls Tryz.prog 15 #[.agg #[.slice A0_0 l0_0.length c0_0]] w fun e w' => e = .returned (.bool r) ∧ Below w.heap.size w w' := by
 have HC := Ak hr0_0
 clear hr0_0 hc0_0
 unfold impl_TreeOk.f at h
 obtain ⟨t, A1, h⟩ := Ob h
 replace A1 := Ak A1
 cases t with
 | false =>
  rw [if_neg (by decide)] at h
  obtain rfl := Oi h
  clear h
  go_enter Tryz.func15, Tryz.ntmps15
  go_wp2_with (first | (go_at_call 30; (with_reducible refine (impl_inRange.calls _ _ _ false _ A1.out).mono ?_); rintro e w' ⟨rfl, ⟨nd, rfl⟩⟩))
  go_ret
  exact ⟨rfl, by repeat (first | exact Below.refl _ _ | apply below_alloc | apply pw_below_drewN)⟩
 | true =>
  rw [if_pos rfl] at h
  have HA := Ak h
  clear h
  go_enter Tryz.func15, Tryz.ntmps15
  go_wp2_with (first
   | ((with_reducible refine gate_dst (N := 1) rfl ?_); refine box_event ?hg (N := 1) ?hd (cs := #[.slice A0_0 l0_0.length c0_0]) (t := 29) ?hr ?_; (case hd => rfl); (case hg => rfl); (case hr => first | (go_simp; done) | (go_simp; rfl)); intro gt hg w1 hbox hb; have HX := Ak (show BoxW w w1 gt A0_0 l0_0.length c0_0 from ⟨hbox, hb, by rw [hg]; exact Nat.le_refl _⟩); have hcb := HX.out.cell; clear hbox hb hg)
   | (go_at_call 30; (with_reducible refine (impl_inRange.calls _ _ _ true _ A1.out).mono ?_); rintro e w' ⟨rfl, ⟨nd, rfl⟩⟩; have HX2 := Ak (HX.out.drewN nd); clear HX))
  go_loopg [13] k (fun kq v13 w' => ∃ (i : Int), v13 = .int .i64 i ∧ Aside0 (impl_TreeOk.l0 kq i l0_0 = some r) ∧ Aside0 (kq ≤ k) ∧ Aside0 (BoxW w w' gt A0_0 l0_0.length c0_0))
  case atStart => exact ⟨0, rfl, HA, ⟨Nat.le_refl _⟩, HX2⟩
  case round =>
   clear HA HX2 hcb
   obtain ⟨i, rfl, HA, HK, HX⟩ := hrel
   cases gk with
   | zero => exact absurd HA.out (by simp [impl_TreeOk.l0])
   | succ k1 =>
    have H := HA.out
    clear HA
    simp only [impl_TreeOk.l0] at H
    by_cases c1 : i < (l0_0.length : Int)
    ·rw [if_pos c1] at H
     by_cases c2 : 0 ≤ i
     ·rw [if_pos c2] at H
      obtain ⟨t, A2, H⟩ := Ob H
      replace A2 := Ak A2
      have c1b : decide (i < (l0_0.length : Int)) = true := decide_eq_true c1
      obtain ⟨ad, A_2, c_2, A_5, c_5, e1, hx0, hx1, hx2, hx3, hx4, hx5, hl2, hi2, hl5, hi5⟩ := at_T41 HC.out i c2 c1
      subst e1
      replace hx0 := pw_cell_below HX.out.low hx0
      replace hx1 := pw_cell_below HX.out.low hx1
      replace hx2 := pw_cell_below HX.out.low hx2
      replace hx3 := pw_cell_below HX.out.low hx3
      replace hx4 := pw_cell_below HX.out.low hx4
      replace hx5 := pw_cell_below HX.out.low hx5
      have HI2 := Ak hi2
      have HI5 := Ak hi5
      have HL2 := Ak hl2
      have HL5 := Ak hl5
      clear hl2 hi2 hl5 hi5
      replace c2 := eq_true c2
      replace c1 := eq_true c1
      go_upto_region 6 with (first | ((with_reducible refine gate_dst (N := 4) rfl ?_); refine box_event ?hg (N := 4) ?hd (cs := #[.int .i64 0, .string (⟨#[]⟩ : ByteArray), .slice none 0 0, .string (⟨#[]⟩ : ByteArray), .int .i64 0, .slice none 0 0]) (t := 41) ?hr ?_; (case hd => rfl); (case hg => rfl); (case hr => first | (go_simp; done) | (go_simp; rfl)); intro gb hg w2 hbox hb; have HNE := Ak (show gb ≠ gt by have := blk_lt HX.out.blk; omega); have HX2 := Ak (HX.out.below hb); have HGB := Ak (show w.heap.size ≤ gb by rw [hg]; exact below_size HX.out.low); have HBX := Ak hbox; have hz0 := blk_cell hbox 0; have hz1 := blk_cell hbox 1; have hz2 := blk_cell hbox 2; have hz3 := blk_cell hbox 3; have hz4 := blk_cell hbox 4; have hz5 := blk_cell hbox 5; have hf := blk_frozen hbox; clear hbox hb hg HX))
      have HB6 := Ak (fillN_blk (rd_T41 l0_0 i) (.slice A_2 (rd_T41 l0_0 i).f2.length c_2) (.slice A_5 (rd_T41 l0_0 i).f5.length c_5) HBX.out)
      have HX := Ak (HX2.out.fill HGB.out HNE.out (rd_T41 l0_0 i) (.slice A_2 (rd_T41 l0_0 i).f2.length c_2) (.slice A_5 (rd_T41 l0_0 i).f5.length c_5))
      show Code.wp _ _ _ _ (fillN w2 gb (rd_T41 l0_0 i) (.slice A_2 (rd_T41 l0_0 i).f2.length c_2) (.slice A_5 (rd_T41 l0_0 i).f5.length c_5))
      generalize fillN w2 gb (rd_T41 l0_0 i) (.slice A_2 (rd_T41 l0_0 i).f2.length c_2) (.slice A_5 (rd_T41 l0_0 i).f5.length c_5) = w3 at HB6 HX ⊢
      clear hz0 hz1 hz2 hz3 hz4 hz5 hf HBX HX2 hx0 hx1 hx2 hx3 hx4 hx5 HNE HGB
      have hz0 := blk_cell HB6.out 0
      have hz1 := blk_cell HB6.out 1
      have hz2 := blk_cell HB6.out 2
      have hz3 := blk_cell HB6.out 3
      have hz4 := blk_cell HB6.out 4
      have hz5 := blk_cell HB6.out 5
      have HJ2 := Ak (Kd.C_below HI2.out HX.out.low)
      have HJ5 := Ak (Kd.C_below HI5.out HX.out.low)
      cases t with
      | true =>
       rw [if_pos rfl] at H
       have HA := Ak H
       clear H
       go_wp2_with (first | (go_at_call 31; (with_reducible refine (impl_nodeOk.calls k1 _ _ _ _ _ _ _ _ _ _ i true _ HJ2.out HL2.out HJ5.out HL5.out A2.out).mono ?_); rintro e w4 ⟨rfl, hb⟩; have HX3 := Ak (HX.out.below hb); clear hb HX))
       go_roundg k1
       case measure => have := HK.out; omega
       case rel => exact ⟨_, rfl, HA, ⟨by have := HK.out; omega⟩, HX3⟩
      | false =>
       rw [if_neg (by decide)] at H
       obtain rfl := Oi H
       clear H
       go_wp2_with (first | (go_at_call 31; (with_reducible refine (impl_nodeOk.calls k1 _ _ _ _ _ _ _ _ _ _ i false _ HJ2.out HL2.out HJ5.out HL5.out A2.out).mono ?_); rintro e w4 ⟨rfl, hb⟩; have HX3 := Ak (HX.out.below hb); clear hb HX))
       go_ret
       exact ⟨rfl, HX3.out.low⟩
     ·rw [if_neg c2] at H; cases H
    ·rw [if_neg c1] at H
     have HA := Ak H
     clear H
     have c1b : decide (i < (l0_0.length : Int)) = false := decide_eq_false c1
     clear c1
     have HIS := Ak (show IsS29 w wr gt l0_0 from ⟨A0_0, c0_0, HX.out.blk, HX.out.ge, HC.out⟩)
     have hcb := HX.out.cell
     have HLO := Ak HX.out.low
     go_wp2_with (first | (go_at_call 32; (with_reducible refine (impl_Tree_linksOk.calls k1 gt l0_0 r w _ HIS.out HLO.out HA.out).mono ?_); rintro e w4 ⟨rfl, _, hb, _⟩))
     go_ret
     exact ⟨rfl, hb⟩
def oneOf (name names : ByteArray) : Bool := !decide (name.toList = []) && (!(Lib.contains name.data.toList (⟨#[32]⟩ : ByteArray).data.toList) && Lib.contains (((⟨#[32]⟩ : ByteArray) ++ names) ++ (⟨#[32]⟩ : ByteArray)).data.toList (((⟨#[32]⟩ : ByteArray) ++ name) ++ (⟨#[32]⟩ : ByteArray)).data.toList)
theorem impl_isOneOf.calls (name names : ByteArray) (m : Int) (w : World) (h1 : name.size ≤ 1048576) (h2 : names.size ≤ 1000) (hm : w.cell? ⟨0, 0, none⟩ = some (.int .i64 m)) :
 Calls Tryz.prog 94 #[.string name, .string names] w fun e w' => e = .returned (.bool (oneOf name names)) ∧ Drawn0 w w' := by
 by_cases c : name.toList = []
 ·have b0 : (name.toList == ([] : List UInt8)) = true := beq_iff_eq.mpr c
  go_enter Tryz.func94, Tryz.ntmps94
  go_wp2
  go_ret
  exact ⟨by simp [oneOf, c], by repeat (first | exact Drawn0.refl _ | apply Drawn0.step)⟩
 ·have b0 : (name.toList == ([] : List UInt8)) = false := by simpa using c
  have hz : (⟨#[32]⟩ : ByteArray).size = 1 := rfl
  cases hc : Lib.contains name.data.toList (⟨#[32]⟩ : ByteArray).data.toList with
  | true =>
   go_enter Tryz.func94, Tryz.ntmps94
   go_wp2_with (first | (go_at_call 110; refine (Tryz.strings_Contains _ _ m _ ?h1 ?h2).mono ?_; (case h1 => first | omega | (simp only [ByteArray.size_append, hz]; omega)); (case h2 => simpa using hm); (try rw [hc]); rintro e w' ⟨rfl, rfl⟩))
   go_ret
   exact ⟨by simp [oneOf, c, hc], by repeat (first | exact Drawn0.refl _ | apply Drawn0.step)⟩
  | false =>
   go_enter Tryz.func94, Tryz.ntmps94
   go_wp2_with (first | (go_at_call 110; refine (Tryz.strings_Contains _ _ m _ ?h1 ?h2).mono ?_; (case h1 => first | omega | (simp only [ByteArray.size_append, hz]; omega)); (case h2 => simpa using hm); (try rw [hc]); rintro e w' ⟨rfl, rfl⟩))
   go_ret
   exact ⟨by simp [oneOf, c, hc], by repeat (first | exact Drawn0.refl _ | apply Drawn0.step)⟩
def words_IsRaw : ByteArray := ⟨#[105, 102, 114, 97, 109, 101, 32, 110, 111, 101, 109, 98, 101, 100, 32, 110, 111, 102, 114, 97, 109, 101, 115, 32, 112, 108, 97, 105, 110, 116, 101, 120, 116, 32, 115, 99, 114, 105, 112, 116, 32, 115, 116, 121, 108, 101, 32, 120, 109, 112]⟩
theorem impl_IsRaw.calls (s : ByteArray) (m : Int) (w : World) (h1 : s.size ≤ 1048576) (hm : w.cell? ⟨0, 0, none⟩ = some (.int .i64 m)) :
 Calls Tryz.prog 65 #[.string s] w fun e w' => e = .returned (.bool (oneOf s words_IsRaw)) ∧ Drawn0 w w' := by
 go_enter Tryz.func65, Tryz.ntmps65
 go_wp2_with (first | (go_at_call 94; refine (impl_isOneOf.calls s words_IsRaw m _ h1 ?h2 ?h3).mono ?_; (case h2 => decide); (case h3 => simpa using hm); rintro e w' ⟨rfl, ⟨nd, rfl⟩⟩))
 go_ret
 exact ⟨rfl, by repeat (first | exact Drawn0.refl _ | apply Drawn0.step)⟩
end Go.Proofs.YtlnmmcipioagaaaGreatDoor.X
namespace Go.Proofs
open Go.Shelf
def Tryz.builder_ren : Go.Shelf.Ren := ⟨fun | 166 => 35 | 167 => 67 | 169 => 22 | 240 => 59 | 276 => 90 | n => n, fun | 0 => 0 | 3 => 3 | 4 => 4 | 5 => 5 | 9 => 9 | 20 => 20 | 37 => 33 | 70 => 45 | 72 => 47 | 75 => 63 | 80 => 49 | 127 => 77 | 164 => 104 | n => n, fun | n => n⟩
theorem Tryz.lays240 : Go.Proofs.Lays.n240 Tryz.prog Tryz.builder_ren := {
 mixed := by kernel_rfl
 f240 := Tryz.func59.trans (congrArg some (by kernel_rfl))
 f276 := Tryz.func90.trans (congrArg some (by kernel_rfl))
 t0 := Tryz.underlying0
 a0 := Tryz.isAgg0
 z0 := Tryz.sizeOf0
 v0 := Tryz.zeroValue0
 t4 := Tryz.underlying4
 a4 := Tryz.isAgg4
 z4 := Tryz.sizeOf4
 v4 := Tryz.zeroValue4
 t9 := Tryz.underlying9
 a9 := Tryz.isAgg9
 z9 := Tryz.sizeOf9
 v9 := Tryz.zeroValue9
 t20 := Tryz.underlying20
 a20 := Tryz.isAgg20
 z20 := Tryz.sizeOf20
 v20 := Tryz.zeroValue20
 t70 := Tryz.underlying45
 a70 := Tryz.isAgg45
 z70 := Tryz.sizeOf45
 v70 := Tryz.zeroValue45
 t72 := Tryz.underlying47
 a72 := Tryz.isAgg47
 z72 := Tryz.sizeOf47
 v72 := Tryz.zeroValue47
 t164 := Tryz.underlying104
 a164 := Tryz.isAgg104
 z164 := Tryz.sizeOf104
 v164 := Tryz.zeroValue104 }
theorem Tryz.lays166 : Go.Proofs.Lays.n166 Tryz.prog Tryz.builder_ren := {
 mixed := by kernel_rfl
 f166 := Tryz.func35.trans (congrArg some (by kernel_rfl))
 f240 := Tryz.func59.trans (congrArg some (by kernel_rfl))
 f276 := Tryz.func90.trans (congrArg some (by kernel_rfl))
 t0 := Tryz.underlying0
 a0 := Tryz.isAgg0
 z0 := Tryz.sizeOf0
 v0 := Tryz.zeroValue0
 t3 := Tryz.underlying3
 a3 := Tryz.isAgg3
 z3 := Tryz.sizeOf3
 v3 := Tryz.zeroValue3
 t4 := Tryz.underlying4
 a4 := Tryz.isAgg4
 z4 := Tryz.sizeOf4
 v4 := Tryz.zeroValue4
 t9 := Tryz.underlying9
 a9 := Tryz.isAgg9
 z9 := Tryz.sizeOf9
 v9 := Tryz.zeroValue9
 t20 := Tryz.underlying20
 a20 := Tryz.isAgg20
 z20 := Tryz.sizeOf20
 v20 := Tryz.zeroValue20
 t37 := Tryz.underlying33
 a37 := Tryz.isAgg33
 z37 := Tryz.sizeOf33
 v37 := Tryz.zeroValue33
 t70 := Tryz.underlying45
 a70 := Tryz.isAgg45
 z70 := Tryz.sizeOf45
 v70 := Tryz.zeroValue45
 t72 := Tryz.underlying47
 a72 := Tryz.isAgg47
 z72 := Tryz.sizeOf47
 v72 := Tryz.zeroValue47
 t75 := Tryz.underlying63
 a75 := Tryz.isAgg63
 z75 := Tryz.sizeOf63
 v75 := Tryz.zeroValue63
 t164 := Tryz.underlying104
 a164 := Tryz.isAgg104
 z164 := Tryz.sizeOf104
 v164 := Tryz.zeroValue104 }
theorem Tryz.lays167 : Go.Proofs.Lays.n167 Tryz.prog Tryz.builder_ren := {
 mixed := by kernel_rfl
 f167 := Tryz.func67.trans (congrArg some (by kernel_rfl))
 f240 := Tryz.func59.trans (congrArg some (by kernel_rfl))
 f276 := Tryz.func90.trans (congrArg some (by kernel_rfl))
 t0 := Tryz.underlying0
 a0 := Tryz.isAgg0
 z0 := Tryz.sizeOf0
 v0 := Tryz.zeroValue0
 t4 := Tryz.underlying4
 a4 := Tryz.isAgg4
 z4 := Tryz.sizeOf4
 v4 := Tryz.zeroValue4
 t5 := Tryz.underlying5
 a5 := Tryz.isAgg5
 z5 := Tryz.sizeOf5
 v5 := Tryz.zeroValue5
 t9 := Tryz.underlying9
 a9 := Tryz.isAgg9
 z9 := Tryz.sizeOf9
 v9 := Tryz.zeroValue9
 t20 := Tryz.underlying20
 a20 := Tryz.isAgg20
 z20 := Tryz.sizeOf20
 v20 := Tryz.zeroValue20
 t37 := Tryz.underlying33
 a37 := Tryz.isAgg33
 z37 := Tryz.sizeOf33
 v37 := Tryz.zeroValue33
 t70 := Tryz.underlying45
 a70 := Tryz.isAgg45
 z70 := Tryz.sizeOf45
 v70 := Tryz.zeroValue45
 t72 := Tryz.underlying47
 a72 := Tryz.isAgg47
 z72 := Tryz.sizeOf47
 v72 := Tryz.zeroValue47
 t75 := Tryz.underlying63
 a75 := Tryz.isAgg63
 z75 := Tryz.sizeOf63
 v75 := Tryz.zeroValue63
 t164 := Tryz.underlying104
 a164 := Tryz.isAgg104
 z164 := Tryz.sizeOf104
 v164 := Tryz.zeroValue104 }
theorem Tryz.lays169 : Go.Proofs.Lays.n169 Tryz.prog Tryz.builder_ren := {
 mixed := by kernel_rfl
 f169 := Tryz.func22.trans (congrArg some (by kernel_rfl))
 t0 := Tryz.underlying0
 a0 := Tryz.isAgg0
 z0 := Tryz.sizeOf0
 v0 := Tryz.zeroValue0
 t3 := Tryz.underlying3
 a3 := Tryz.isAgg3
 z3 := Tryz.sizeOf3
 v3 := Tryz.zeroValue3
 t9 := Tryz.underlying9
 a9 := Tryz.isAgg9
 z9 := Tryz.sizeOf9
 v9 := Tryz.zeroValue9
 t37 := Tryz.underlying33
 a37 := Tryz.isAgg33
 z37 := Tryz.sizeOf33
 v37 := Tryz.zeroValue33
 t70 := Tryz.underlying45
 a70 := Tryz.isAgg45
 z70 := Tryz.sizeOf45
 v70 := Tryz.zeroValue45
 t72 := Tryz.underlying47
 a72 := Tryz.isAgg47
 z72 := Tryz.sizeOf47
 v72 := Tryz.zeroValue47
 t127 := Tryz.underlying77
 a127 := Tryz.isAgg77
 z127 := Tryz.sizeOf77
 v127 := Tryz.zeroValue77 }
theorem Tryz.Builder_Extra : Builder.Extra Tryz.prog Tryz.builder_ren := {
 sizeBuilder := by kernel_rfl
 liesBuilder := by kernel_rfl
 t5 := Tryz.underlying5
 a5 := Tryz.isAgg5
 z5 := Tryz.sizeOf5
 v5 := Tryz.zeroValue5
 infoByte := by kernel_rfl
 cellsByte := by kernel_rfl
 sizeByte := by kernel_rfl
 neB5 := by decide }
open Go.RowKit in
theorem Tryz.Builder_WriteString_k (B b : Nat) (bs : List Value) (s : ByteArray) (w : World) (h : Lib.IsBuilderF 47 5 B b bs w) (hlen : bs.length + s.size ≤ 140737488355328) (hBw : B ≤ w.heap.size) :
 Calls Tryz.prog 35 #[.pointer (some ⟨b, 0, none⟩), .string s] w fun e w' => e = .returned (.tuple #[.int .i64 s.size, .nilIface]) ∧ (Lib.BuilderAtF 47 5 B b (.pointer (some ⟨b, 0, none⟩)) (bs ++ Lib.strCells s) w' ∧ Below B w w' ∧ Lib.OthersKept 5 (some b) w w') := Any.Builder_WriteString_k Tryz.lays166 Tryz.Builder_Extra B b bs s w h hlen hBw
open Go.RowKit in
theorem Tryz.Builder_WriteByte_k (B b : Nat) (bs : List Value) (c : Int) (w : World) (h : Lib.IsBuilderF 47 5 B b bs w) (hlen : bs.length + 1 ≤ 140737488355328) (hBw : B ≤ w.heap.size) :
 Calls Tryz.prog 67 #[.pointer (some ⟨b, 0, none⟩), .int .u8 c] w fun e w' => e = .returned .nilIface ∧ (Lib.BuilderAtF 47 5 B b (.pointer (some ⟨b, 0, none⟩)) (bs ++ [.int .u8 c]) w' ∧ Below B w w' ∧ Lib.OthersKept 5 (some b) w w') := Any.Builder_WriteByte_k Tryz.lays167 Tryz.Builder_Extra B b bs c w h hlen hBw
open Go.RowKit in
theorem Tryz.Builder_String_any_k (B b : Nat) (l : List UInt8) (w : World) (h : Lib.IsBuilderF 47 5 B b (Lib.byteCells l) w) (hBw : B ≤ w.heap.size) :
 Calls Tryz.prog 22 #[.pointer (some ⟨b, 0, none⟩)] w fun e w' => e = .returned (.string ⟨l.toArray⟩) ∧ (Lib.IsBuilderF 47 5 B b (Lib.byteCells l) w' ∧ Below B w w' ∧ Lib.OthersKept 5 (some b) w w') := Any.Builder_String_any_k Tryz.lays169 Tryz.Builder_Extra B b l w h hBw
end Go.Proofs
namespace Go.Proofs.YtlnmmcipioagaaaGreatDoor.X
open Go.RowKit Go.Proofs.YtlnmmcipioagaaaGreatDoorW.PrintWords Go.Proofs.YtlnmmcipioagaaaGreatDoorW.PrintLast Go.Proofs.YtlnmmcipioagaaaGreatDoorW.PrintMore
attribute [local go_sem] max2_int min2_int max_two min_two max_three min_three max_four min_four
set_option linter.unusedVariables false
set_option linter.unusedSimpArgs false
open Go.Lib in
theorem rk_len (old new : List UInt8) : ∀ (k : Nat) (s : List UInt8), (replaceK old new k s).length ≤ s.length + k * new.length := by
 intro k
 induction k with
 | zero => intro s; simp [replaceK]
 | succ k ih =>
  intro s
  unfold replaceK
  split
  ·exact Nat.le_add_right _ _
  ·have h := ih (s.drop ((index s old).toNat + old.length))
   rw [List.length_drop] at h
   rw [List.length_append, List.length_append, List.length_take, Nat.succ_mul]
   omega
def rb (s old new : ByteArray) : ByteArray := ⟨(Lib.replaceAll s.data.toList old.data.toList new.data.toList).toArray⟩
open Go.Lib in
theorem rb_ok (s old new : ByteArray) (h1 : 1 ≤ old.size) : (rb s old new).size ≤ s.size + s.size * new.size ∧ s.size + countB s old * new.size ≤ s.size + s.size * new.size := by
 have hc := countB_le old h1 s.size s (Nat.le_refl _)
 have hm : countB s old * new.size ≤ s.size * new.size := Nat.mul_le_mul_right _ hc
 refine ⟨?_, by omega⟩
 have e1 : (rb s old new).size = (replaceAll s.data.toList old.data.toList new.data.toList).length := by
  rw [Lib.size_eq]; rfl
 have e2 : s.data.toList.length = s.size := (Lib.size_eq s).symm
 have e3 : new.data.toList.length = new.size := (Lib.size_eq new).symm
 rw [e1]
 unfold replaceAll replace
 split
 ·omega
 ·have h := rk_len old.data.toList new.data.toList (replaceNum s.data.toList old.data.toList (-1)) s.data.toList
  have e4 : replaceNum s.data.toList old.data.toList (-1) = countB s old := by unfold replaceNum; rw [if_pos (Or.inl (by decide))]
  rw [e4, e2, e3] at h
  rw [e4]
  omega
theorem ra_calls (s old new : ByteArray) (m : Int) (w : World) (hs : s.size < 4294967281) (hm : w.cell? ⟨0, 0, none⟩ = some (.int .i64 m)) (h1 : 1 ≤ old.size) (hlen : s.size + Lib.countB s old * new.size ≤ 140737488355328) :
 Calls Tryz.prog 95 #[.string s, .string old, .string new] w fun e w' => e = .returned (.string (rb s old new)) ∧ Below w.heap.size w w' := Tryz.strings_ReplaceAll s old new m w hs hm h1 hlen
def impl_Escape.f (s : ByteArray) (v : Bool) : ByteArray := if v = true then rb (rb (rb s ⟨#[38]⟩ ⟨#[38, 97, 109, 112, 59]⟩) ⟨#[194, 160]⟩ ⟨#[38, 110, 98, 115, 112, 59]⟩) ⟨#[34]⟩ ⟨#[38, 113, 117, 111, 116, 59]⟩ else rb (rb (rb (rb s ⟨#[38]⟩ ⟨#[38, 97, 109, 112, 59]⟩) ⟨#[194, 160]⟩ ⟨#[38, 110, 98, 115, 112, 59]⟩) ⟨#[60]⟩ ⟨#[38, 108, 116, 59]⟩) ⟨#[62]⟩ ⟨#[38, 103, 116, 59]⟩
theorem impl_Escape.calls (s : ByteArray) (v : Bool) (m : Int) (w : World) (h1 : s.size ≤ 1048576) (hm : w.cell? ⟨0, 0, none⟩ = some (.int .i64 m)) :
 Calls Tryz.prog 66 #[.string s, .bool v] w fun e w' => e = .returned (.string (impl_Escape.f s v)) ∧ Below w.heap.size w w' := by
 have k1 := rb_ok s ⟨#[38]⟩ ⟨#[38, 97, 109, 112, 59]⟩ (by decide)
 have k2 := rb_ok (rb s ⟨#[38]⟩ ⟨#[38, 97, 109, 112, 59]⟩) ⟨#[194, 160]⟩ ⟨#[38, 110, 98, 115, 112, 59]⟩ (by decide)
 have z1 : (⟨#[38, 97, 109, 112, 59]⟩ : ByteArray).size = 5 := rfl
 have z2 : (⟨#[38, 110, 98, 115, 112, 59]⟩ : ByteArray).size = 6 := rfl
 have z3 : (⟨#[38, 113, 117, 111, 116, 59]⟩ : ByteArray).size = 6 := rfl
 have z4 : (⟨#[38, 108, 116, 59]⟩ : ByteArray).size = 4 := rfl
 have z5 : (⟨#[38, 103, 116, 59]⟩ : ByteArray).size = 4 := rfl
 rw [z1] at k1
 rw [z2] at k2
 have HM := Ak hm
 have K1 := Ak (show s.size < 4294967281 ∧ s.size + Lib.countB s ⟨#[38]⟩ * (⟨#[38, 97, 109, 112, 59]⟩ : ByteArray).size ≤ 140737488355328 by rw [z1]; omega)
 have K2 := Ak (show (rb s ⟨#[38]⟩ ⟨#[38, 97, 109, 112, 59]⟩).size < 4294967281 ∧ (rb s ⟨#[38]⟩ ⟨#[38, 97, 109, 112, 59]⟩).size + Lib.countB (rb s ⟨#[38]⟩ ⟨#[38, 97, 109, 112, 59]⟩) ⟨#[194, 160]⟩ * (⟨#[38, 110, 98, 115, 112, 59]⟩ : ByteArray).size ≤ 140737488355328 by rw [z2]; omega)
 generalize hs2 : rb (rb s ⟨#[38]⟩ ⟨#[38, 97, 109, 112, 59]⟩) ⟨#[194, 160]⟩ ⟨#[38, 110, 98, 115, 112, 59]⟩ = s2 at k2
 have k3 := rb_ok s2 ⟨#[34]⟩ ⟨#[38, 113, 117, 111, 116, 59]⟩ (by decide)
 have k4 := rb_ok s2 ⟨#[60]⟩ ⟨#[38, 108, 116, 59]⟩ (by decide)
 rw [z3] at k3
 rw [z4] at k4
 have k5 := rb_ok (rb s2 ⟨#[60]⟩ ⟨#[38, 108, 116, 59]⟩) ⟨#[62]⟩ ⟨#[38, 103, 116, 59]⟩ (by decide)
 rw [z5] at k5
 have K3 := Ak (show s2.size < 4294967281 ∧ s2.size + Lib.countB s2 ⟨#[34]⟩ * (⟨#[38, 113, 117, 111, 116, 59]⟩ : ByteArray).size ≤ 140737488355328 by rw [z3]; omega)
 have K4 := Ak (show s2.size < 4294967281 ∧ s2.size + Lib.countB s2 ⟨#[60]⟩ * (⟨#[38, 108, 116, 59]⟩ : ByteArray).size ≤ 140737488355328 by rw [z4]; omega)
 have K5 := Ak (show (rb s2 ⟨#[60]⟩ ⟨#[38, 108, 116, 59]⟩).size < 4294967281 ∧ (rb s2 ⟨#[60]⟩ ⟨#[38, 108, 116, 59]⟩).size + Lib.countB (rb s2 ⟨#[60]⟩ ⟨#[38, 108, 116, 59]⟩) ⟨#[62]⟩ * (⟨#[38, 103, 116, 59]⟩ : ByteArray).size ≤ 140737488355328 by rw [z5]; omega)
 have HS := Ak hs2
 have O1 := Ak (show 1 ≤ (⟨#[38]⟩ : ByteArray).size by decide)
 have O2 := Ak (show 1 ≤ (⟨#[194, 160]⟩ : ByteArray).size by decide)
 have O3 := Ak (show 1 ≤ (⟨#[34]⟩ : ByteArray).size by decide)
 have O4 := Ak (show 1 ≤ (⟨#[60]⟩ : ByteArray).size by decide)
 have O5 := Ak (show 1 ≤ (⟨#[62]⟩ : ByteArray).size by decide)
 clear k1 k2 k3 k4 k5 z1 z2 z3 z4 z5 hm h1 hs2
 unfold impl_Escape.f
 cases v with
 | true =>
  rw [if_pos rfl, HS.out]
  go_enter Tryz.func66, Tryz.ntmps66
  go_wp2_with (first | (go_at_call 95; (with_reducible refine (ra_calls s ⟨#[38]⟩ ⟨#[38, 97, 109, 112, 59]⟩ m _ K1.out.1 HM.out O1.out K1.out.2).mono ?_); rintro e w1 ⟨rfl, hb⟩; have HB1 := Ak hb; clear hb) | (go_at_call 95; (with_reducible refine (ra_calls (rb s ⟨#[38]⟩ ⟨#[38, 97, 109, 112, 59]⟩) ⟨#[194, 160]⟩ ⟨#[38, 110, 98, 115, 112, 59]⟩ m _ K2.out.1 (pw_cell_below HB1.out HM.out) O2.out K2.out.2).mono ?_); rintro e w2 ⟨rfl, hb⟩; rw [HS.out]; have HB2 := Ak (below_step HB1.out hb); clear hb) | (go_at_call 95; (with_reducible refine (ra_calls s2 ⟨#[34]⟩ ⟨#[38, 113, 117, 111, 116, 59]⟩ m _ K3.out.1 (pw_cell_below HB2.out HM.out) O3.out K3.out.2).mono ?_); rintro e w3 ⟨rfl, hb⟩; have HB3 := Ak (below_step HB2.out hb); clear hb))
  go_ret
  exact ⟨rfl, HB3.out⟩
 | false =>
  rw [if_neg (by decide), HS.out]
  go_enter Tryz.func66, Tryz.ntmps66
  go_wp2_with (first | (go_at_call 95; (with_reducible refine (ra_calls s ⟨#[38]⟩ ⟨#[38, 97, 109, 112, 59]⟩ m _ K1.out.1 HM.out O1.out K1.out.2).mono ?_); rintro e w1 ⟨rfl, hb⟩; have HB1 := Ak hb; clear hb) | (go_at_call 95; (with_reducible refine (ra_calls (rb s ⟨#[38]⟩ ⟨#[38, 97, 109, 112, 59]⟩) ⟨#[194, 160]⟩ ⟨#[38, 110, 98, 115, 112, 59]⟩ m _ K2.out.1 (pw_cell_below HB1.out HM.out) O2.out K2.out.2).mono ?_); rintro e w2 ⟨rfl, hb⟩; rw [HS.out]; have HB2 := Ak (below_step HB1.out hb); clear hb) | (go_at_call 95; (with_reducible refine (ra_calls s2 ⟨#[60]⟩ ⟨#[38, 108, 116, 59]⟩ m _ K4.out.1 (pw_cell_below HB2.out HM.out) O4.out K4.out.2).mono ?_); rintro e w4 ⟨rfl, hb⟩; have HB4 := Ak (below_step HB2.out hb); clear hb) | (go_at_call 95; (with_reducible refine (ra_calls (rb s2 ⟨#[60]⟩ ⟨#[38, 108, 116, 59]⟩) ⟨#[62]⟩ ⟨#[38, 103, 116, 59]⟩ m _ K5.out.1 (pw_cell_below HB4.out HM.out) O5.out K5.out.2).mono ?_); rintro e w5 ⟨rfl, hb⟩; have HB5 := Ak (below_step HB4.out hb); clear hb))
  go_ret
  exact ⟨rfl, HB5.out⟩
end Go.Proofs.YtlnmmcipioagaaaGreatDoor.X
namespace Go.Proofs.YtlnmmcipioagaaaGreatDoor.X
open Go.RowKit Go.Proofs.YtlnmmcipioagaaaGreatDoorW.PrintWords Go.Proofs.YtlnmmcipioagaaaGreatDoorW.PrintLast Go.Proofs.YtlnmmcipioagaaaGreatDoorW.PrintMore
attribute [local go_sem] max2_int min2_int max_two min_two max_three min_three max_four min_four
set_option linter.unusedVariables false
set_option linter.unusedSimpArgs false
def words_IsVoid : ByteArray := ⟨#[97, 114, 101, 97, 32, 98, 97, 115, 101, 32, 98, 114, 32, 101, 109, 98, 101, 100, 32, 104, 114, 32, 105, 109, 103, 32, 105, 110, 112, 117, 116, 32, 108, 105, 110, 107, 32, 109, 101, 116, 97, 32, 112, 97, 114, 97, 109, 32, 115, 111, 117, 114, 99, 101, 32, 116, 114, 97, 99, 107, 32, 119, 98, 114]⟩
theorem impl_IsVoid.calls (s : ByteArray) (m : Int) (w : World) (h1 : s.size ≤ 1048576) (hm : w.cell? ⟨0, 0, none⟩ = some (.int .i64 m)) :
 Calls Tryz.prog 68 #[.string s] w fun e w' => e = .returned (.bool (oneOf s words_IsVoid)) ∧ Drawn0 w w' := by
 go_enter Tryz.func68, Tryz.ntmps68
 go_wp2_with (first | (go_at_call 94; refine (impl_isOneOf.calls s words_IsVoid m _ h1 ?h2 ?h3).mono ?_; (case h2 => decide); (case h3 => simpa using hm); rintro e w' ⟨rfl, ⟨nd, rfl⟩⟩))
 go_ret
 exact ⟨rfl, by repeat (first | exact Drawn0.refl _ | apply Drawn0.step)⟩
def wrB (acc s : ByteArray) : Option ByteArray := if acc.size + s.size ≤ 140737488355328 then some (acc ++ s) else none
def impl_print.at (a : S72) : ByteArray := (⟨#[32]⟩ : ByteArray) ++ a.f0 ++ (⟨#[61, 34]⟩ : ByteArray) ++ impl_Escape.f a.f1 true ++ (⟨#[34]⟩ : ByteArray)
def impl_print.la : Nat → ByteArray → List S72 → Int → Option ByteArray
 | 0, _, _, _ => none
 | k + 1, acc, as_, j => if j < (as_.length : Int) then (if 0 ≤ j then (if (rd_T72 as_ j).f0.size ≤ 1048576 ∧ (rd_T72 as_ j).f1.size ≤ 1048576 then (wrB acc (impl_print.at (rd_T72 as_ j))).bind fun a2 => impl_print.la k a2 as_ (wrap64 (j + 1)) else none) else none) else some acc
def impl_print.lk (p : ByteArray → Int → Option ByteArray) : Nat → ByteArray → List Int → Int → Option ByteArray
 | 0, _, _, _ => none
 | k + 1, acc, ks, j => if j < (ks.length : Int) then (if 0 ≤ j then (p acc (rd ks j)).bind fun a2 => impl_print.lk p k a2 ks (wrap64 (j + 1)) else none) else some acc
def impl_print.raw (xs : List S41) (i : Int) : Option Bool := if 0 ≤ i then (if i < (xs.length : Int) then (if (rd_T41 xs i).f0 = 3 then (if (rd_T41 xs i).f1.size ≤ 1048576 then some (oneOf (rd_T41 xs i).f1 words_IsRaw) else none) else some false) else none) else some false
def impl_print.n (kk : ByteArray → Option ByteArray) (k : Nat) (xs : List S41) (acc : ByteArray) (x : S41) : Option ByteArray :=
 if x.f1.size ≤ 1048576 ∧ x.f3.size ≤ 1048576 then
  if x.f0 = 2 then wrB acc ((⟨#[60, 33, 68, 79, 67, 84, 89, 80, 69, 32]⟩ : ByteArray) ++ x.f1 ++ (⟨#[62]⟩ : ByteArray))
  else if x.f0 = 5 then wrB acc ((⟨#[60, 33, 45, 45]⟩ : ByteArray) ++ x.f3 ++ (⟨#[45, 45, 62]⟩ : ByteArray))
  else if x.f0 = 4 then (impl_print.raw xs x.f4).bind fun q => if q = true then wrB acc x.f3 else wrB acc (impl_Escape.f x.f3 false)
  else if x.f0 = 3 then (wrB acc ((⟨#[60]⟩ : ByteArray) ++ x.f1)).bind fun a1 => (impl_print.la k a1 x.f2 0).bind fun a2 => (wrB a2 (⟨#[62]⟩ : ByteArray)).bind fun a3 => if oneOf x.f1 words_IsVoid = true then some a3 else (kk a3).bind fun a4 => wrB a4 ((⟨#[60, 47]⟩ : ByteArray) ++ x.f1 ++ (⟨#[62]⟩ : ByteArray))
  else some acc
 else none
def impl_print.kf (p : ByteArray → Int → Option ByteArray) (k : Nat) (xs : List S41) (acc : ByteArray) (i : Int) : Option ByteArray := if 0 ≤ i then (if i < (xs.length : Int) then impl_print.lk p k acc (rd_T41 xs i).f5 0 else none) else none
def impl_Tree_print.f : Nat → List S41 → ByteArray → Int → Option ByteArray
 | 0, _, _, _ => none
 | k + 1, xs, acc, i => if 0 ≤ i then (if i < (xs.length : Int) then impl_print.n (fun a => impl_print.kf (fun b j => impl_Tree_print.f k xs b j) k xs a i) k xs acc (rd_T41 xs i) else none) else none
def impl_Tree_printKids.f (k : Nat) (xs : List S41) (acc : ByteArray) (i : Int) : Option ByteArray := impl_print.kf (fun b j => impl_Tree_print.f k xs b j) k xs acc i
theorem impl_print.mono_a : ∀ k a b c, LeO (impl_print.la k a b c) (impl_print.la (k + 1) a b c)
 | 0 => fun _ _ _ r h => by simp [impl_print.la] at h
 | k + 1 => fun a b c => by
  rw [impl_print.la, impl_print.la]
  exact LeO.ite (LeO.ite (LeO.ite (LeO.bind (LeO.refl _) (fun _ => impl_print.mono_a k _ _ _)) (LeO.refl _)) (LeO.refl _)) (LeO.refl _)
theorem impl_print.mono_k {p q : ByteArray → Int → Option ByteArray} (hp : ∀ a i, LeO (p a i) (q a i)) : ∀ k a b c, LeO (impl_print.lk p k a b c) (impl_print.lk q (k + 1) a b c)
 | 0 => fun _ _ _ r h => by simp [impl_print.lk] at h
 | k + 1 => fun a b c => by
  rw [impl_print.lk, impl_print.lk]
  exact LeO.ite (LeO.ite (LeO.bind (hp _ _) (fun _ => impl_print.mono_k hp k _ _ _)) (LeO.refl _)) (LeO.refl _)
theorem impl_Tree_print.mono : ∀ k a b c, LeO (impl_Tree_print.f k a b c) (impl_Tree_print.f (k + 1) a b c)
 | 0 => fun _ _ _ r h => by simp [impl_Tree_print.f] at h
 | k + 1 => fun a b c => by
  rw [impl_Tree_print.f, impl_Tree_print.f]
  refine LeO.ite (LeO.ite ?_ (LeO.refl _)) (LeO.refl _)
  unfold impl_print.n
  refine LeO.ite (LeO.ite (LeO.refl _) (LeO.ite (LeO.refl _) (LeO.ite (LeO.refl _) (LeO.ite (LeO.bind (LeO.refl _) (fun _ => LeO.bind (impl_print.mono_a k _ _ _) (fun _ => LeO.bind (LeO.refl _) (fun _ => LeO.ite (LeO.refl _) (LeO.bind ?_ (fun _ => LeO.refl _)))))) (LeO.refl _))))) (LeO.refl _)
  unfold impl_print.kf
  exact LeO.ite (LeO.ite (impl_print.mono_k (fun _ _ => impl_Tree_print.mono k _ _ _) k _ _ _) (LeO.refl _)) (LeO.refl _)
theorem impl_Tree_printKids.mono : ∀ a b c k, LeO (impl_Tree_printKids.f k a b c) (impl_Tree_printKids.f (k + 1) a b c) := fun a b c k => LeO.ite (LeO.ite (impl_print.mono_k (fun _ _ => impl_Tree_print.mono k _ _ _) k _ _ _) (LeO.refl _)) (LeO.refl _)
structure TxB (w4 W : World) (b : Nat) (acc : ByteArray) : Prop where
 bld : Lib.IsBuilderF 47 5 b b (Lib.strCells acc) W
 oth : Lib.OthersKept 5 (some b) w4 W
 low : Below b w4 W
structure PrT (w0 W : World) (m : Int) (gt b : Nat) (A0 : Option Addr) (c0 : Nat) (xs : List S41) : Prop where
 bt : W.heap[gt]? = some (.cells #[.slice A0 xs.length c0] 29 (0, 0))
 ne : gt ≠ b
 c : Kd.C k41 w0 A0 xs.length xs
 low : Below w0.heap.size w0 W
 hle : w0.heap.size ≤ b
 hm : w0.cell? ⟨0, 0, none⟩ = some (.int .i64 m)
structure PrS (w0 w W : World) (m : Int) (gt b : Nat) (A0 : Option Addr) (c0 : Nat) (xs : List S41) (acc : ByteArray) (gn : Nat) (x : S41) (A2 A5 : Option Addr) (c2 c5 : Nat) : Prop where
 t : PrT w0 W m gt b A0 c0 xs
 tx : TxB w W b acc
 bn : W.heap[gn]? = some (.cells #[.int .i64 x.f0, .string x.f1, .slice A2 x.f2.length c2, .string x.f3, .int .i64 x.f4, .slice A5 x.f5.length c5] 41 (0, 0))
 nb : gn ≠ b
section
variable {w0 w w4 W W2 : World} {m : Int} {gt b gn c0 c2 c5 : Nat} {A0 A2 A5 : Option Addr} {xs : List S41} {acc acc2 s : ByteArray} {x : S41}
theorem TxB.start (h : Lib.IsBuilderF 47 5 b b (Lib.strCells acc) W) : TxB W W b acc := ⟨h, Lib.OthersKept.refl _ _ _, Below.refl _ _⟩
theorem TxB.lt (h : TxB w4 W b acc) : b < W.heap.size := by rcases h.bld with h_ | h_ <;> exact h_.lt
theorem TxB.trans (h : TxB w4 W b acc) (h2 : TxB W W2 b acc2) : TxB w4 W2 b acc2 := ⟨h2.bld, h.oth.trans h2.oth, h.low.trans h2.low⟩
theorem TxB.below (h : TxB w4 W b acc) (hb : Below W.heap.size W W2) : TxB w4 W2 b acc := ⟨Lib.IsBuilderF.below h.bld hb, Lib.OthersKept.below h.oth hb, h.low.trans (hb.mono (Nat.le_of_lt h.lt))⟩
theorem TxB.write (h : Lib.BuilderAtF 47 5 b b (.pointer (some ⟨b, 0, none⟩)) (Lib.strCells acc ++ Lib.strCells s) W2) (hb : Below b W W2) (hk : Lib.OthersKept 5 (some b) W W2) : TxB W W2 b (acc ++ s) := by
 have e : Lib.strCells (acc ++ s) = Lib.strCells acc ++ Lib.strCells s := by
  unfold Lib.strCells
  rw [ByteArray.data_append, Array.toList_append, List.map_append]
 exact ⟨.inr (by rw [e]; exact h), hk, hb⟩
theorem PrT.cell (h : PrT w0 W m gt b A0 c0 xs) {a : Addr} {v : Value} (hc : w0.cell? a = some v) : W.cell? a = some v := pw_cell_below h.low hc
theorem PrT.below (h : PrT w0 W m gt b A0 c0 xs) (hb : Below W.heap.size W W2) : PrT w0 W2 m gt b A0 c0 xs := ⟨blk_below h.bt hb, h.ne, h.c, below_step h.low hb, h.hle, h.hm⟩
theorem PrT.step (h : PrT w0 W m gt b A0 c0 xs) (ht : TxB W W2 b acc) : PrT w0 W2 m gt b A0 c0 xs := ⟨ht.oth gt _ h.bt (fun e => h.ne (by injection e)) (fun c z e => by cases e), h.ne, h.c, below_weaken h.low h.hle ht.low, h.hle, h.hm⟩
theorem PrS.below (h : PrS w0 w W m gt b A0 c0 xs acc gn x A2 A5 c2 c5) (hb : Below W.heap.size W W2) : PrS w0 w W2 m gt b A0 c0 xs acc gn x A2 A5 c2 c5 := ⟨h.t.below hb, h.tx.below hb, blk_below h.bn hb, h.nb⟩
theorem PrS.step (h : PrS w0 w W m gt b A0 c0 xs acc gn x A2 A5 c2 c5) (ht : TxB W W2 b acc2) : PrS w0 w W2 m gt b A0 c0 xs acc2 gn x A2 A5 c2 c5 := ⟨h.t.step ht, h.tx.trans ht, ht.oth gn _ h.bn (fun e => h.nb (by injection e)) (fun c z e => by cases e), h.nb⟩
theorem PrS.hm (h : PrS w0 w W m gt b A0 c0 xs acc gn x A2 A5 c2 c5) : W.cell? ⟨0, 0, none⟩ = some (.int .i64 m) := h.t.cell h.t.hm
theorem ws_calls (h : Lib.IsBuilderF 47 5 b b (Lib.strCells acc) W) (hs : acc.size + s.size ≤ 140737488355328) : Calls Tryz.prog 35 #[.pointer (some ⟨b, 0, none⟩), .string s] W fun e w' => e = .returned (.tuple #[.int .i64 s.size, .nilIface]) ∧ TxB W w' b (acc ++ s) :=
 (Tryz.Builder_WriteString_k b b (Lib.strCells acc) s W h (by rw [Lib.strCells_length]; exact hs) (Nat.le_of_lt (TxB.start h).lt)).mono (fun e w6 h_ => by obtain ⟨rfl, h1, hb, hk⟩ := h_; exact ⟨rfl, TxB.write h1 hb hk⟩)
end
abbrev PrAt (k : Nat) : Prop := ∀ (m : Int) (gt b c0 : Nat) (A0 : Option Addr) (xs : List S41) (acc r : ByteArray) (i : Int) (w0 w : World), PrT w0 w m gt b A0 c0 xs → Lib.IsBuilderF 47 5 b b (Lib.strCells acc) w → impl_Tree_print.f k xs acc i = some r → Calls Tryz.prog 43 #[.pointer (some ⟨gt, 0, none⟩), .pointer (some ⟨b, 0, none⟩), .int .i64 i] w fun e w' => e = .returned (.tuple #[]) ∧ TxB w w' b r
theorem impl_print.kids (k : Nat) (hp : PrAt k) (m : Int) (gt b c0 : Nat) (A0 : Option Addr) (xs : List S41) (acc r : ByteArray) (i : Int) (w0 w : World) (HT0 : PrT w0 w m gt b A0 c0 xs) (HB0 : Lib.IsBuilderF 47 5 b b (Lib.strCells acc) w) (h : impl_Tree_printKids.f k xs acc i = some r) :
 Calls Tryz.prog 21 #[.pointer (some ⟨gt, 0, none⟩), .pointer (some ⟨b, 0, none⟩), .int .i64 i] w fun e w' => e = .returned (.tuple #[]) ∧ TxB w w' b r := by
 unfold impl_Tree_printKids.f impl_print.kf at h
 by_cases c1 : 0 ≤ i
 ·rw [if_pos c1] at h
  by_cases c2 : i < (xs.length : Int)
  ·rw [if_pos c2] at h
   have HP := Ak hp
   have HT := Ak HT0
   have HX := Ak (TxB.start HB0)
   have HA := Ak h
   obtain ⟨ad, A_2, c_2, A_5, c_5, e1, hx0, hx1, hx2, hx3, hx4, hx5, hl2, hi2, hl5, hi5⟩ := at_T41 HT.out.c i c1 c2
   subst e1
   have HI5 := Ak hi5
   have hx5 := HT.out.cell hx5
   have hct := blk_cell HT.out.bt 0
   clear hp HT0 HB0 h hx0 hx1 hx2 hx3 hx4 hl2 hi2 hl5 hi5
   replace c1 := eq_true c1
   replace c2 := eq_true c2
   generalize (rd_T41 xs i).f5 = ks at *
   go_enter Tryz.func21, Tryz.ntmps21
   go_wp2
   clear hx5 hct c1 c2
   go_loopg [17] k (fun kq v17 w' => ∃ (j : Int) (a : ByteArray), v17 = .int .i64 j ∧ Aside0 (impl_print.lk (fun b j => impl_Tree_print.f k xs b j) kq a ks j = some r) ∧ Aside0 (kq ≤ k) ∧ Aside0 (TxB w w' b a))
   case atStart => exact ⟨0, _, rfl, HA, ⟨Nat.le_refl _⟩, HX⟩
   case round =>
    clear HA HX
    obtain ⟨j, a, rfl, HA, HK, HX⟩ := hrel
    cases gk with
    | zero => exact absurd HA.out (by simp [impl_print.lk])
    | succ k1 =>
     have H := HA.out
     clear HA
     simp only [impl_print.lk] at H
     by_cases g1 : j < (ks.length : Int)
     ·rw [if_pos g1] at H
      by_cases g2 : 0 ≤ j
      ·rw [if_pos g2] at H
       obtain ⟨a2, A1, H⟩ := Ob H
       have HA := Ak H
       have HA1 := Ak A1
       clear H A1
       have g1b : decide (j < (ks.length : Int)) = true := decide_eq_true g1
       obtain ⟨ak, e2, hy0⟩ := Kd.at_int HI5.out j g2 g1
       subst e2
       have HT2 := Ak (HT.out.step HX.out)
       have hy0 := HT2.out.cell hy0
       replace g1 := eq_true g1
       replace g2 := eq_true g2
       go_wp2_with (first | (go_at_call 43; (with_reducible refine (HP.out m gt b c0 (some ad) xs a a2 (rd ks j) w0 _ HT2.out HX.out.bld HA1.out).mono ?_); rintro e w3 ⟨rfl, ht⟩; have HX3 := Ak (HX.out.trans ht); clear ht))
       go_roundg k1
       case measure => have := HK.out; omega
       case rel => exact ⟨_, _, rfl, HA, ⟨by have := HK.out; omega⟩, HX3⟩
      ·rw [if_neg g2] at H; cases H
     ·rw [if_neg g1] at H
      obtain rfl := Oi H
      clear H
      have g1b : decide (j < (ks.length : Int)) = false := decide_eq_false g1
      clear g1
      go_wp2
      (try simp only [Exit.inBlock, Exit.then])
      refine bodyPost_end (results_list (rs := []) rfl (by simp) .nil) rfl ?_
      exact ⟨rfl, HX.out⟩
  ·rw [if_neg c2] at h; cases h
 ·rw [if_neg c1] at h; cases h
theorem esc_size (s : ByteArray) (v : Bool) (h : s.size ≤ 1048576) : (impl_Escape.f s v).size ≤ 4294967296 := by
 have k1 := (rb_ok s ⟨#[38]⟩ ⟨#[38, 97, 109, 112, 59]⟩ (by decide)).1
 have k2 := (rb_ok (rb s ⟨#[38]⟩ ⟨#[38, 97, 109, 112, 59]⟩) ⟨#[194, 160]⟩ ⟨#[38, 110, 98, 115, 112, 59]⟩ (by decide)).1
 unfold impl_Escape.f
 generalize rb (rb s ⟨#[38]⟩ ⟨#[38, 97, 109, 112, 59]⟩) ⟨#[194, 160]⟩ ⟨#[38, 110, 98, 115, 112, 59]⟩ = s2 at k2 ⊢
 have k3 := (rb_ok s2 ⟨#[34]⟩ ⟨#[38, 113, 117, 111, 116, 59]⟩ (by decide)).1
 have k4 := (rb_ok s2 ⟨#[60]⟩ ⟨#[38, 108, 116, 59]⟩ (by decide)).1
 have k5 := (rb_ok (rb s2 ⟨#[60]⟩ ⟨#[38, 108, 116, 59]⟩) ⟨#[62]⟩ ⟨#[38, 103, 116, 59]⟩ (by decide)).1
 rw [show (⟨#[38, 97, 109, 112, 59]⟩ : ByteArray).size = 5 from rfl] at k1
 rw [show (⟨#[38, 110, 98, 115, 112, 59]⟩ : ByteArray).size = 6 from rfl] at k2
 rw [show (⟨#[38, 113, 117, 111, 116, 59]⟩ : ByteArray).size = 6 from rfl] at k3
 rw [show (⟨#[38, 108, 116, 59]⟩ : ByteArray).size = 4 from rfl] at k4
 rw [show (⟨#[38, 103, 116, 59]⟩ : ByteArray).size = 4 from rfl] at k5
 split <;> omega
theorem wrB_le {acc s r : ByteArray} (h : wrB acc s = some r) : acc.size + s.size ≤ 140737488355328 ∧ r = acc ++ s := by
 unfold wrB at h
 by_cases c : acc.size + s.size ≤ 140737488355328
 ·rw [if_pos c] at h
  exact ⟨c, (Oi h).symm⟩
 ·rw [if_neg c] at h; cases h
structure PrG (w0 w W : World) (m : Int) (gt b : Nat) (A0 : Option Addr) (c0 : Nat) (xs : List S41) (acc : ByteArray) (gn : Nat) (x : S41) (A2 A5 : Option Addr) (c2 c5 : Nat) (ga : Nat) (y : S72) : Prop where
 s : PrS w0 w W m gt b A0 c0 xs acc gn x A2 A5 c2 c5
 ba : W.heap[ga]? = some (.cells #[.string y.f0, .string y.f1] 72 (0, 0))
 na : ga ≠ b
section
variable {w0 w w4 W W2 : World} {m : Int} {gt b gn ga c0 c2 c5 : Nat} {A0 A2 A5 : Option Addr} {xs : List S41} {acc acc2 s : ByteArray} {x : S41} {y : S72}
theorem PrG.below (h : PrG w0 w W m gt b A0 c0 xs acc gn x A2 A5 c2 c5 ga y) (hb : Below W.heap.size W W2) : PrG w0 w W2 m gt b A0 c0 xs acc gn x A2 A5 c2 c5 ga y := ⟨h.s.below hb, blk_below h.ba hb, h.na⟩
theorem PrG.step (h : PrG w0 w W m gt b A0 c0 xs acc gn x A2 A5 c2 c5 ga y) (ht : TxB W W2 b acc2) : PrG w0 w W2 m gt b A0 c0 xs acc2 gn x A2 A5 c2 c5 ga y := ⟨h.s.step ht, ht.oth ga _ h.ba (fun e => h.na (by injection e)) (fun c z e => by cases e), h.na⟩
theorem PrG.drew (h : PrG w0 w W m gt b A0 c0 xs acc gn x A2 A5 c2 c5 ga y) : PrG w0 w W.drew m gt b A0 c0 xs acc gn x A2 A5 c2 c5 ga y := h.below (pw_below_drewN (Below.refl _ _) 1)
theorem PrS.drewN (h : PrS w0 w W m gt b A0 c0 xs acc gn x A2 A5 c2 c5) (n : Nat) : PrS w0 w (W.drewN n) m gt b A0 c0 xs acc gn x A2 A5 c2 c5 := h.below (pw_below_drewN (Below.refl _ _) n)
theorem wb_calls (h : Lib.IsBuilderF 47 5 b b (Lib.strCells acc) W) (hs : acc.size + 1 ≤ 140737488355328) : Calls Tryz.prog 67 #[.pointer (some ⟨b, 0, none⟩), .int .u8 62] W fun e w' => e = .returned .nilIface ∧ TxB W w' b (acc ++ (⟨#[62]⟩ : ByteArray)) :=
 (Tryz.Builder_WriteByte_k b b (Lib.strCells acc) 62 W h (by rw [Lib.strCells_length]; exact hs) (Nat.le_of_lt (TxB.start h).lt)).mono (fun e w6 h_ => by obtain ⟨rfl, h1, hb, hk⟩ := h_; exact ⟨rfl, TxB.write (s := (⟨#[62]⟩ : ByteArray)) h1 hb hk⟩)
end
theorem impl_print.step (k : Nat) (hp : PrAt k) : PrAt (k + 1) := by
 intro m gt b c0 A0 xs acc r i w0 w HT0 HB0 h
 simp only [impl_Tree_print.f] at h
 by_cases c1 : 0 ≤ i
 case neg => rw [if_neg c1] at h; cases h
 rw [if_pos c1] at h
 by_cases c2 : i < (xs.length : Int)
 case neg => rw [if_neg c2] at h; cases h
 rw [if_pos c2] at h
 have HP := Ak (impl_print.kids k hp m gt b c0 A0 xs)
 have HT := Ak HT0
 have HX := Ak (TxB.start HB0)
 have HA := Ak h
 obtain ⟨ad, A_2, c_2, A_5, c_5, e1, hx0, hx1, hx2, hx3, hx4, hx5, hl2, hi2, hl5, hi5⟩ := at_T41 HT.out.c i c1 c2
 subst e1
 have HI2 := Ak hi2
 have hx0 := HT.out.cell hx0
 have hx1 := HT.out.cell hx1
 have hx2 := HT.out.cell hx2
 have hx3 := HT.out.cell hx3
 have hx4 := HT.out.cell hx4
 have hx5 := HT.out.cell hx5
 have hct := blk_cell HT.out.bt 0
 clear hp HT0 HB0 h hl2 hi2 hl5 hi5
 replace c1 := eq_true c1
 replace c2 := eq_true c2
 generalize rd_T41 xs i = x at *
 go_enter Tryz.func43, Tryz.ntmps43
 go_upto_region 1 with (fail)
 have hX := blk_new w (.cells #[.int .i64 x.f0, .string x.f1, .slice A_2 x.f2.length c_2, .string x.f3, .int .i64 x.f4, .slice A_5 x.f5.length c_5] 41)
 have hl := below_alloc (Below.refl w.heap.size w) (.cells #[.int .i64 x.f0, .string x.f1, .slice A_2 x.f2.length c_2, .string x.f3, .int .i64 x.f4, .slice A_5 x.f5.length c_5] 41)
 generalize w.alloc (.cells #[.int .i64 x.f0, .string x.f1, .slice A_2 x.f2.length c_2, .string x.f3, .int .i64 x.f4, .slice A_5 x.f5.length c_5] 41) = w3 at hX hl ⊢
 have HNB := Ak (show w.heap.size ≠ b from Nat.ne_of_gt HX.out.lt)
 have HS := Ak (show PrS w0 w w3 m gt b (some ad) c0 xs acc w.heap.size x A_2 A_5 c_2 c_5 from ⟨HT.out.below hl, HX.out.below hl, hX, HNB.out⟩)
 clear hl hX hx0 hx1 hx2 hx3 hx4 hx5 hct HT HX c1 c2 HNB
 generalize w.heap.size = gn at HS ⊢
 have hn0 := blk_cell HS.out.bn 0
 have H := HA.out
 clear HA
 unfold impl_print.n at H
 by_cases z1 : x.f1.size ≤ 1048576 ∧ x.f3.size ≤ 1048576
 case neg => rw [if_neg z1] at H; cases H
 rw [if_pos z1] at H
 obtain ⟨z1, z3⟩ := z1
 have zD : (⟨#[60, 33, 68, 79, 67, 84, 89, 80, 69, 32]⟩ : ByteArray).size = 10 := rfl
 have zG : (⟨#[62]⟩ : ByteArray).size = 1 := rfl
 have zC : (⟨#[60, 33, 45, 45]⟩ : ByteArray).size = 4 := rfl
 have zE : (⟨#[45, 45, 62]⟩ : ByteArray).size = 3 := rfl
 have zL : (⟨#[60]⟩ : ByteArray).size = 1 := rfl
 have zS : (⟨#[60, 47]⟩ : ByteArray).size = 2 := rfl
 by_cases e2 : x.f0 = 2
 ·rw [if_pos e2] at H
  have e2b : (x.f0 == 2) = true := beq_iff_eq.2 e2
  clear e2
  obtain ⟨c3, rfl⟩ := wrB_le H
  have HSZA := Ak c3
  clear H c3
  have hn1 := blk_cell HS.out.bn 1
  go_wp2_with (first | (go_at_call 35; (with_reducible refine (ws_calls (s := (⟨#[60, 33, 68, 79, 67, 84, 89, 80, 69, 32]⟩ : ByteArray) ++ x.f1 ++ (⟨#[62]⟩ : ByteArray)) HS.out.tx.bld HSZA.out).mono ?_); rintro e w4 ⟨rfl, ht⟩; have HXA := Ak (HS.out.step ht); clear ht))
  (try simp only [Exit.inBlock, Exit.then])
  refine bodyPost_end (results_list (rs := []) rfl (by simp) .nil) rfl ?_
  exact ⟨rfl, HXA.out.tx⟩
 rw [if_neg e2] at H
 have e2b : (x.f0 == 2) = false := beq_eq_false_iff_ne.2 e2
 clear e2
 by_cases e5 : x.f0 = 5
 ·rw [if_pos e5] at H
  have e5b : (x.f0 == 5) = true := beq_iff_eq.2 e5
  clear e5
  obtain ⟨c3, rfl⟩ := wrB_le H
  have HSZA := Ak c3
  clear H c3
  have hn3 := blk_cell HS.out.bn 3
  go_wp2_with (first | (go_at_call 35; (with_reducible refine (ws_calls (s := (⟨#[60, 33, 45, 45]⟩ : ByteArray) ++ x.f3 ++ (⟨#[45, 45, 62]⟩ : ByteArray)) HS.out.tx.bld HSZA.out).mono ?_); rintro e w4 ⟨rfl, ht⟩; have HXA := Ak (HS.out.step ht); clear ht))
  (try simp only [Exit.inBlock, Exit.then])
  refine bodyPost_end (results_list (rs := []) rfl (by simp) .nil) rfl ?_
  exact ⟨rfl, HXA.out.tx⟩
 rw [if_neg e5] at H
 have e5b : (x.f0 == 5) = false := beq_eq_false_iff_ne.2 e5
 clear e5
 by_cases e4 : x.f0 = 4
 ·rw [if_pos e4] at H
  have e4b : (x.f0 == 4) = true := beq_iff_eq.2 e4
  clear e4
  obtain ⟨q, A1, H⟩ := Ob H
  have hn3 := blk_cell HS.out.bn 3
  have hn4 := blk_cell HS.out.bn 4
  have hct := blk_cell HS.out.t.bt 0
  have hm := HS.out.hm
  unfold impl_print.raw at A1
  by_cases d1 : 0 ≤ x.f4
  ·rw [if_pos d1] at A1
   by_cases d2 : x.f4 < (xs.length : Int)
   ·rw [if_pos d2] at A1
    have d1b : decide (0 ≤ x.f4) = true := decide_eq_true d1
    obtain ⟨ad', B_2, d_2, B_5, d_5, e1, hy0, hy1, hy2, hy3, hy4, hy5, hl2, hi2, hl5, hi5⟩ := at_T41 HS.out.t.c x.f4 d1 d2
    injection e1 with e1
    subst e1
    have hy0 := HS.out.t.cell hy0
    have hy1 := HS.out.t.cell hy1
    clear hy2 hy3 hy4 hy5 hl2 hi2 hl5 hi5
    replace d1 := eq_true d1
    replace d2 := eq_true d2
    by_cases d3 : (rd_T41 xs x.f4).f0 = 3
    ·rw [if_pos d3] at A1
     have d3b : ((rd_T41 xs x.f4).f0 == 3) = true := beq_iff_eq.2 d3
     clear d3
     by_cases z6 : (rd_T41 xs x.f4).f1.size ≤ 1048576
     ·rw [if_pos z6] at A1
      obtain rfl := Oi A1
      clear A1
      go_upto_region 7 with (fail)
      cases hq : oneOf (rd_T41 xs x.f4).f1 words_IsRaw with
      | true =>
       rw [hq] at H
       go_quiet ((go_at_call 65; (with_reducible refine (impl_IsRaw.calls (rd_T41 xs x.f4).f1 m _ z6 (cell_at rfl hm)).mono ?_); rintro e w' ⟨rfl, ⟨nd, rfl⟩⟩; (first | exact ⟨rfl, _, rfl⟩ | exact ⟨rfl, _, World.drewN_drewN _ _ _⟩)))
       try rw [hq]
       rw [if_pos rfl] at H
       obtain ⟨c3, rfl⟩ := wrB_le H
       have HSZA := Ak c3
       clear H c3
       go_wp2_with (first | (go_at_call 35; (with_reducible refine (ws_calls (s := x.f3) (HS.out.drewN _).tx.bld HSZA.out).mono ?_); rintro e w5 ⟨rfl, ht⟩; have HXA := Ak ((HS.out.drewN _).step ht); clear ht))
       (try simp only [Exit.inBlock, Exit.then])
       refine bodyPost_end (results_list (rs := []) rfl (by simp) .nil) rfl ?_
       exact ⟨rfl, HXA.out.tx⟩
      | false =>
       rw [hq] at H
       go_quiet ((go_at_call 65; (with_reducible refine (impl_IsRaw.calls (rd_T41 xs x.f4).f1 m _ z6 (cell_at rfl hm)).mono ?_); rintro e w' ⟨rfl, ⟨nd, rfl⟩⟩; (first | exact ⟨rfl, _, rfl⟩ | exact ⟨rfl, _, World.drewN_drewN _ _ _⟩)))
       try rw [hq]
       rw [if_neg (by decide)] at H
       obtain ⟨c3, rfl⟩ := wrB_le H
       have HSZA := Ak c3
       clear H c3
       go_wp2_with (first | (go_at_call 66; (with_reducible refine (impl_Escape.calls x.f3 false m _ z3 (HS.out.drewN _).hm).mono ?_); rintro e w4 ⟨rfl, hb⟩; have HE := Ak ((HS.out.drewN _).below hb); clear hb) | (go_at_call 35; (with_reducible refine (ws_calls (s := impl_Escape.f x.f3 false) HE.out.tx.bld HSZA.out).mono ?_); rintro e w5 ⟨rfl, ht⟩; have HXA := Ak (HE.out.step ht); clear ht))
       (try simp only [Exit.inBlock, Exit.then])
       refine bodyPost_end (results_list (rs := []) rfl (by simp) .nil) rfl ?_
       exact ⟨rfl, HXA.out.tx⟩
     ·rw [if_neg z6] at A1; cases A1
    ·rw [if_neg d3] at A1
     obtain rfl := Oi A1
     clear A1
     have d3b : ((rd_T41 xs x.f4).f0 == 3) = false := beq_eq_false_iff_ne.2 d3
     clear d3
     go_upto_region 7 with (fail)
     go_quiet (fail)
     rw [if_neg (by decide)] at H
     obtain ⟨c3, rfl⟩ := wrB_le H
     have HSZA := Ak c3
     clear H c3
     go_wp2_with (first | (go_at_call 66; (with_reducible refine (impl_Escape.calls x.f3 false m _ z3 (HS.out.drewN _).hm).mono ?_); rintro e w4 ⟨rfl, hb⟩; have HE := Ak ((HS.out.drewN _).below hb); clear hb) | (go_at_call 35; (with_reducible refine (ws_calls (s := impl_Escape.f x.f3 false) HE.out.tx.bld HSZA.out).mono ?_); rintro e w5 ⟨rfl, ht⟩; have HXA := Ak (HE.out.step ht); clear ht))
     (try simp only [Exit.inBlock, Exit.then])
     refine bodyPost_end (results_list (rs := []) rfl (by simp) .nil) rfl ?_
     exact ⟨rfl, HXA.out.tx⟩
   ·rw [if_neg d2] at A1; cases A1
  ·rw [if_neg d1] at A1
   obtain rfl := Oi A1
   clear A1
   have d1b : decide (0 ≤ x.f4) = false := decide_eq_false d1
   clear d1
   go_upto_region 7 with (fail)
   go_quiet (fail)
   rw [if_neg (by decide)] at H
   obtain ⟨c3, rfl⟩ := wrB_le H
   have HSZA := Ak c3
   clear H c3
   go_wp2_with (first | (go_at_call 66; (with_reducible refine (impl_Escape.calls x.f3 false m _ z3 (HS.out.drewN _).hm).mono ?_); rintro e w4 ⟨rfl, hb⟩; have HE := Ak ((HS.out.drewN _).below hb); clear hb) | (go_at_call 35; (with_reducible refine (ws_calls (s := impl_Escape.f x.f3 false) HE.out.tx.bld HSZA.out).mono ?_); rintro e w5 ⟨rfl, ht⟩; have HXA := Ak (HE.out.step ht); clear ht))
   (try simp only [Exit.inBlock, Exit.then])
   refine bodyPost_end (results_list (rs := []) rfl (by simp) .nil) rfl ?_
   exact ⟨rfl, HXA.out.tx⟩
 rw [if_neg e4] at H
 have e4b : (x.f0 == 4) = false := beq_eq_false_iff_ne.2 e4
 clear e4
 by_cases e3 : x.f0 = 3
 case neg =>
  rw [if_neg e3] at H
  obtain rfl := Oi H
  clear H
  have e3b : (x.f0 == 3) = false := beq_eq_false_iff_ne.2 e3
  clear e3
  go_wp2
  (try simp only [Exit.inBlock, Exit.then])
  refine bodyPost_end (results_list (rs := []) rfl (by simp) .nil) rfl ?_
  exact ⟨rfl, HS.out.tx⟩
 rw [if_pos e3] at H
 have e3b : (x.f0 == 3) = true := beq_iff_eq.2 e3
 clear e3
 obtain ⟨a1, A1, H⟩ := Ob H
 obtain ⟨c3, rfl⟩ := wrB_le A1
 have HSZA := Ak c3
 clear A1 c3
 obtain ⟨a2, A1, H⟩ := Ob H
 have HL := Ak A1
 have HA := Ak H
 clear A1 H
 have hn1 := blk_cell HS.out.bn 1
 go_upto_region 12 with (first | (go_at_call 35; (with_reducible refine (ws_calls (s := (⟨#[60]⟩ : ByteArray) ++ x.f1) HS.out.tx.bld HSZA.out).mono ?_); rintro e w4 ⟨rfl, ht⟩; have HXA := Ak (HS.out.step ht); clear ht))
 clear hn0 hn1
 have hn2 := blk_cell HXA.out.bn 2
 go_wp2
 clear hn2 HS
 go_loopg [82] k (fun kq v82 w' => ∃ (j : Int) (a : ByteArray), v82 = .int .i64 j ∧ Aside0 (impl_print.la kq a x.f2 j = some a2) ∧ Aside0 (kq ≤ k) ∧ Aside0 (PrS w0 w w' m gt b (some ad) c0 xs a gn x A_2 A_5 c_2 c_5))
 case atStart => exact ⟨0, _, rfl, HL, ⟨Nat.le_refl _⟩, HXA⟩
 case round =>
  clear HL HXA
  obtain ⟨j, a, rfl, HL, HK, HXA⟩ := hrel
  cases gk with
  | zero => exact absurd HL.out (by simp [impl_print.la])
  | succ k1 =>
   have H := HL.out
   clear HL
   simp only [impl_print.la] at H
   by_cases g1 : j < (x.f2.length : Int)
   ·rw [if_pos g1] at H
    by_cases g2 : 0 ≤ j
    ·rw [if_pos g2] at H
     by_cases g3 : (rd_T72 x.f2 j).f0.size ≤ 1048576 ∧ (rd_T72 x.f2 j).f1.size ≤ 1048576
     ·rw [if_pos g3] at H
      obtain ⟨b2, A1, H⟩ := Ob H
      have HL := Ak H
      clear H
      have g1b : decide (j < (x.f2.length : Int)) = true := decide_eq_true g1
      obtain ⟨ak, e2, hy0, hy1⟩ := at_T72 HI2.out j g2 g1
      subst e2
      have hy0 := HXA.out.t.cell hy0
      have hy1 := HXA.out.t.cell hy1
      replace g1 := eq_true g1
      replace g2 := eq_true g2
      generalize rd_T72 x.f2 j = y at *
      go_upto_region 15 with (fail)
      have hX := blk_new wr (.cells #[.string y.f0, .string y.f1] 72)
      have hl := below_alloc (Below.refl wr.heap.size wr) (.cells #[.string y.f0, .string y.f1] 72)
      generalize wr.alloc (.cells #[.string y.f0, .string y.f1] 72) = w5 at hX hl ⊢
      have HNB := Ak (show wr.heap.size ≠ b from Nat.ne_of_gt HXA.out.tx.lt)
      have HG := Ak (show PrG w0 w w5 m gt b (some ad) c0 xs a gn x (some ak) A_5 c_2 c_5 wr.heap.size y from ⟨HXA.out.below hl, hX, HNB.out⟩)
      clear hl hX hy0 hy1 HNB
      generalize wr.heap.size = ga at HG ⊢
      obtain ⟨y1, y3⟩ := g3
      unfold impl_print.at at A1
      have zz := esc_size y.f1 true y3
      have HI := Ak (fun w1 hm1 => impl_Escape.calls y.f1 true m w1 y3 hm1)
      generalize impl_Escape.f y.f1 true = zt at A1 zz HI
      obtain ⟨c3, rfl⟩ := wrB_le A1
      have HSZB := Ak c3
      clear A1 c3
      have zP : (9223372036854775807 < 1 + y.f0.size) = False := eq_false (by omega)
      have zQ : (9223372036854775807 < 1 + y.f0.size + 2) = False := eq_false (by omega)
      have zR : (9223372036854775807 < 1 + y.f0.size + 2 + zt.size) = False := eq_false (by omega)
      have zT : (9223372036854775807 < 1 + y.f0.size + 2 + zt.size + 1) = False := eq_false (by omega)
      have HGD := Ak HG.out.drew
      have hy0 := blk_cell HG.out.ba 0
      have hy1 := blk_cell HG.out.ba 1
      go_region_held3 (fun w' => w'.cell? ⟨ga, 0, none⟩ = some (.string y.f0) ∧ w'.cell? ⟨ga, 1, none⟩ = some (.string y.f1)) (first | exact ⟨hy0, hy1⟩ | exact ⟨hy0A, hy1A⟩ | exact ⟨hy0B, hy1B⟩) (first | (go_at_call 66; (refine (HI.out _ HGD.out.s.hm).mono ?_); rintro e w6 ⟨rfl, hb⟩; have HGA := Ak (HGD.out.below hb); have hy0A := blk_cell HGA.out.ba 0; have hy1A := blk_cell HGA.out.ba 1; clear hb) | (go_at_call 35; (with_reducible refine (ws_calls (s := (⟨#[32]⟩ : ByteArray) ++ y.f0 ++ (⟨#[61, 34]⟩ : ByteArray) ++ zt ++ (⟨#[34]⟩ : ByteArray)) HGA.out.s.tx.bld HSZB.out).mono ?_); rintro e w7 ⟨rfl, ht⟩; have HGB := Ak (HGA.out.step ht); have hy0B := blk_cell HGB.out.ba 0; have hy1B := blk_cell HGB.out.ba 1; clear ht))
      clear hy0 hy1 hy0A hy1A hy0B hy1B
      go_wp2
      go_roundg k1
      case measure => have := HK.out; omega
      case rel => exact ⟨_, _, rfl, HL, ⟨by have := HK.out; omega⟩, ⟨HGB.out.s⟩⟩
     ·rw [if_neg g3] at H; cases H
    ·rw [if_neg g2] at H; cases H
   ·rw [if_neg g1] at H
    obtain rfl := Oi H
    clear H
    have g1b : decide (j < (x.f2.length : Int)) = false := decide_eq_false g1
    clear g1
    have H := HA.out
    clear HA
    obtain ⟨a3, A1, H⟩ := Ob H
    obtain ⟨c3, rfl⟩ := wrB_le A1
    have HSZC := Ak (show a.size + 1 ≤ 140737488355328 by rw [zG] at c3; exact c3)
    clear A1 c3
    have hm := HXA.out.hm
    have hn1 := blk_cell HXA.out.bn 1
    cases hq : oneOf x.f1 words_IsVoid with
    | true =>
     rw [hq, if_pos rfl] at H
     obtain rfl := Oi H
     clear H
     go_wp2_with (first | (go_at_call 67; (with_reducible refine (wb_calls HXA.out.tx.bld HSZC.out).mono ?_); rintro e wC ⟨rfl, ht⟩; have HXC := Ak (HXA.out.step ht); have hmC := HXC.out.hm; have hn1C := blk_cell HXC.out.bn 1; clear ht) | (go_at_call 68; (with_reducible refine (impl_IsVoid.calls x.f1 m _ z1 hmC).mono ?_); rintro e wV ⟨rfl, ⟨nd, rfl⟩⟩; rw [hq]; have HXV := Ak (HXC.out.drewN nd)))
     (try simp only [Exit.inBlock, Exit.then])
     refine bodyPost_end (results_list (rs := []) rfl (by simp) .nil) rfl ?_
     exact ⟨rfl, HXV.out.tx⟩
    | false =>
     rw [hq, if_neg (by decide)] at H
     obtain ⟨a4, A1, H⟩ := Ob H
     have HKA := Ak (show impl_Tree_printKids.f k xs (a ++ (⟨#[62]⟩ : ByteArray)) i = some a4 from A1)
     obtain ⟨c3, rfl⟩ := wrB_le H
     have HSZE := Ak c3
     clear A1 H c3
     go_wp2_with (first | (go_at_call 67; (with_reducible refine (wb_calls HXA.out.tx.bld HSZC.out).mono ?_); rintro e wC ⟨rfl, ht⟩; have HXC := Ak (HXA.out.step ht); have hmC := HXC.out.hm; have hn1C := blk_cell HXC.out.bn 1; clear ht) | (go_at_call 68; (with_reducible refine (impl_IsVoid.calls x.f1 m _ z1 hmC).mono ?_); rintro e wV ⟨rfl, ⟨nd, rfl⟩⟩; rw [hq]; have HXV := Ak (HXC.out.drewN nd)) | (go_at_call 21; (with_reducible refine (HP.out (a ++ (⟨#[62]⟩ : ByteArray)) a4 i w0 _ HXV.out.t HXV.out.tx.bld HKA.out).mono ?_); rintro e wD ⟨rfl, ht⟩; have HXD := Ak (HXV.out.step ht); have hn1D := blk_cell HXD.out.bn 1; clear ht) | (go_at_call 35; (with_reducible refine (ws_calls (s := (⟨#[60, 47]⟩ : ByteArray) ++ x.f1 ++ (⟨#[62]⟩ : ByteArray)) HXD.out.tx.bld HSZE.out).mono ?_); rintro e wE ⟨rfl, ht⟩; have HXE := Ak (HXD.out.step ht); clear ht))
     (try simp only [Exit.inBlock, Exit.then])
     refine bodyPost_end (results_list (rs := []) rfl (by simp) .nil) rfl ?_
     exact ⟨rfl, HXE.out.tx⟩
theorem impl_print.all : ∀ k, PrAt k
 | 0 => fun m gt b c0 A0 xs acc r i w0 w _ _ h => by simp [impl_Tree_print.f] at h
 | k + 1 => impl_print.step k (impl_print.all k)
theorem impl_Tree_print.calls (k : Nat) : PrAt k := impl_print.all k
theorem impl_Tree_printKids.calls (k : Nat) (m : Int) (gt b c0 : Nat) (A0 : Option Addr) (xs : List S41) (acc r : ByteArray) (i : Int) (w0 w : World) (HT0 : PrT w0 w m gt b A0 c0 xs) (HB0 : Lib.IsBuilderF 47 5 b b (Lib.strCells acc) w) (h : impl_Tree_printKids.f k xs acc i = some r) :
 Calls Tryz.prog 21 #[.pointer (some ⟨gt, 0, none⟩), .pointer (some ⟨b, 0, none⟩), .int .i64 i] w fun e w' => e = .returned (.tuple #[]) ∧ TxB w w' b r := impl_print.kids k (impl_print.all k) m gt b c0 A0 xs acc r i w0 w HT0 HB0 h
def impl_PrintOf.f (k : Nat) (xs : List S41) : Option ByteArray := (impl_TreeOk.f k xs).bind fun u => if u = true then impl_Tree_printKids.f k xs ⟨#[]⟩ 0 else some ⟨#[]⟩
theorem impl_PrintOf.mono : ∀ a0 k, LeO (impl_PrintOf.f k a0) (impl_PrintOf.f (k + 1) a0) := fun a0 k => LeO.bind (impl_TreeOk.mono _ k) (fun _ => LeO.ite (impl_Tree_printKids.mono _ _ _ k) (LeO.refl _))
theorem impl_PrintOf.calls (k : Nat) (A0 : Option Addr) (c0 : Nat) (xs : List S41) (r : ByteArray) (m : Int) (w : World) (hr0 : Kd.C k41 w A0 xs.length xs) (hc0 : xs.length ≤ c0) (hm : w.cell? ⟨0, 0, none⟩ = some (.int .i64 m)) (h : impl_PrintOf.f k xs = some r) :
 Calls Tryz.prog 8 #[.agg #[.slice A0 xs.length c0]] w fun e w' => e = .returned (.string r) ∧ Below w.heap.size w w' := by
 have HC := Ak hr0
 have HCC := Ak hc0
 have HM := Ak hm
 clear hr0 hc0 hm
 unfold impl_PrintOf.f at h
 obtain ⟨u, A2, h⟩ := Ob h
 replace A2 := Ak A2
 go_enter Tryz.func8, Tryz.ntmps8
 go_upto_region 1 with (first
  | ((with_reducible refine gate_dst (N := 1) rfl ?_); refine box_event ?hg (N := 1) ?hd (cs := #[.slice A0 xs.length c0]) (t := 29) ?hr ?_; (case hd => rfl); (case hg => rfl); (case hr => first | (go_simp; done) | (go_simp; rfl)); intro gt hg w1 hbox hb; have HX := Ak (show BoxW w w1 gt A0 xs.length c0 from ⟨hbox, hb, by rw [hg]; exact Nat.le_refl _⟩); have hcb := HX.out.cell; clear hbox hb hg))
 cases u with
 | false =>
  rw [if_neg (by decide)] at h
  obtain rfl := Oi h
  clear h
  go_wp2_with (first
   | (go_at_call 15; (with_reducible refine (impl_TreeOk.calls k _ _ xs false _ (Kd.C_below HC.out HX.out.low) HCC.out A2.out).mono ?_); rintro e w3 ⟨rfl, hb⟩; have HX3 := Ak (HX.out.below hb); clear hb))
  go_ret
  exact ⟨rfl, HX3.out.low⟩
 | true =>
  rw [if_pos rfl] at h
  have HA := Ak h
  clear h
  go_wp2_with (first
   | (go_at_call 15; (with_reducible refine (impl_TreeOk.calls k _ _ xs true _ (Kd.C_below HC.out HX.out.low) HCC.out A2.out).mono ?_); rintro e w3 ⟨rfl, hb⟩; have HX3 := Ak (HX.out.below hb); clear hb)
   | ((with_reducible refine gate_dst (N := 3) rfl ?_); refine box_event ?hg (N := 3) ?hd (cs := #[.pointer none, .slice none 0 0]) (t := 47) ?hr ?_; (case hd => rfl); (case hg => rfl); (case hr => first | (go_simp; done) | (go_simp; rfl)); intro b hg w4 hbox hb; have HX4 := Ak (HX3.out.below hb); have HBE := Ak (show w.heap.size ≤ b by rw [hg]; exact HX3.out.low.size); have HPT := Ak (show PrT w w4 m gt b A0 c0 xs from ⟨HX4.out.blk, by have := blk_lt HX3.out.blk; omega, HC.out, HX4.out.low, HBE.out, HM.out⟩); have HBB := Ak (show Lib.IsBuilderF 47 5 b b (Lib.strCells ⟨#[]⟩) w4 from .inl ⟨Nat.le_refl _, _, hbox, World.ownsRowF_nil _ _ _ _, by simp [Value.ownBlock]⟩); clear hbox hb hg)
   | (go_at_call 21; (with_reducible refine (impl_Tree_printKids.calls k m gt b c0 A0 xs _ r 0 w _ HPT.out HBB.out HA.out).mono ?_); rintro e w5 ⟨rfl, ht⟩; have HT5 := Ak ht; have HB5 := Ak (show Lib.IsBuilderF 47 5 b b (Lib.byteCells r.data.toList) w5 from ht.bld); clear ht)
   | (go_at_call 22; (with_reducible refine (Tryz.Builder_String_any_k b b r.data.toList _ HB5.out (Nat.le_of_lt HT5.out.lt)).mono ?_); rintro e w6 ⟨rfl, h1, hb, hk⟩; have HBZ := Ak (below_weaken (below_weaken HX4.out.low HBE.out HT5.out.low) HBE.out hb); clear h1 hb hk))
  go_ret
  exact ⟨rfl, HBZ.out⟩
def laws_eqAttr.f (a0_0 : ByteArray) (a0_1 : ByteArray) (a1_0 : ByteArray) (a1_1 : ByteArray) : Option (Bool) := if a0_0.toList = a1_0.toList then (if a0_1.toList = a1_1.toList then (some true) else (some false)) else (some false)
theorem laws_eqAttr.calls (a0_0 : ByteArray) (a0_1 : ByteArray) (a1_0 : ByteArray) (a1_1 : ByteArray) (r : Bool) (w : World) (h : laws_eqAttr.f a0_0 a0_1 a1_0 a1_1 = some r) :
 Calls Tryz.prog 96 #[.agg #[.string a0_0, .string a0_1], .agg #[.string a1_0, .string a1_1]] w fun e w' => e = .returned (.bool r) ∧ Below w.heap.size w w' := by
 have hu72 := Tryz.underlying72
 have HB := Ak (Below.refl w.heap.size w)
 have H : (if a0_0.toList = a1_0.toList then (if a0_1.toList = a1_1.toList then (some true) else (some false)) else (some false)) = some r := h
 clear h
 by_cases c3 : a0_0.toList = a1_0.toList
 ·rw [if_pos c3] at H
  have c3b0 := beq_iff_eq.mpr c3
  have c3b1 := bne_eq_false_iff_eq.mpr c3
  clear c3
  by_cases c4 : a0_1.toList = a1_1.toList
  ·rw [if_pos c4] at H
   have c4b0 := beq_iff_eq.mpr c4
   have c4b1 := bne_eq_false_iff_eq.mpr c4
   clear c4
   obtain rfl := Oi H
   go_enter Tryz.func96, Tryz.ntmps96
   go_wp2_with (first | ((with_reducible refine gate_dst (N := 2) rfl ?_); refine box_event ?hg (N := 2) ?hd (cs := #[.string a0_0, .string a0_1]) (t := 72) ?hr ?_; (case hd => rfl); (case hg => rfl); (case hr => go_simp); intro gb101 hg w5 hbox hb; have n0_ := Ak (below_step (HB.out) hb); have n1_ := Ak (hbox); have n2_ := Ak ((by rw [hg]; exact (below_size (HB.out)) : w.heap.size ≤ gb101)); have n3_ := n2_; clear HB; have HB := n0_; have BK101 := n1_; have GW101 := n2_; have GE101 := n3_; clear n0_ n1_ n2_ n3_; clear hb hbox hg) | ((with_reducible refine gate_dst (N := 3) rfl ?_); refine box_event ?hg (N := 3) ?hd (cs := #[.string a1_0, .string a1_1]) (t := 72) ?hr ?_; (case hd => rfl); (case hg => rfl); (case hr => go_simp); intro gb102 hg w6 hbox hb; have n0_ := Ak (blk_below BK101.out hb); have n1_ := Ak (below_step (HB.out) hb); have n2_ := Ak (hbox); have n3_ := Ak ((by rw [hg]; exact (below_size (HB.out)) : w.heap.size ≤ gb102)); have n4_ := n3_; have n5_ := Ak ((by rw [hg]; exact Nat.ne_of_lt (blk_lt BK101.out) : gb101 ≠ gb102)); have n6_ := Ak (Ne.symm n5_.out); clear BK101; clear HB; have BK101 := n0_; have HB := n1_; have BK102 := n2_; have GW102 := n3_; have GE102 := n4_; have NB101_102 := n5_; have NB102_101 := n6_; clear n0_ n1_ n2_ n3_ n4_ n5_ n6_; clear hb hbox hg; have hnb7 := NB101_102.out; have hnc7 := NB102_101.out; have hcz8_0 := blk_cell BK101.out 0; have hcz8_1 := blk_cell BK101.out 1; have hfz8_0 := blk_frozen BK101.out 0; have hfz8_1 := blk_frozen BK101.out 1; have hcz9_0 := blk_cell BK102.out 0; have hcz9_1 := blk_cell BK102.out 1; have hfz9_0 := blk_frozen BK102.out 0; have hfz9_1 := blk_frozen BK102.out 1))
   go_ret
   exact ⟨rfl, HB.out⟩
  ·rw [if_neg c4] at H
   have c4b0 := beq_eq_false_iff_ne.mpr c4
   have c4b1 := bne_iff_ne.mpr c4
   obtain rfl := Oi H
   go_enter Tryz.func96, Tryz.ntmps96
   go_wp2_with (first | ((with_reducible refine gate_dst (N := 2) rfl ?_); refine box_event ?hg (N := 2) ?hd (cs := #[.string a0_0, .string a0_1]) (t := 72) ?hr ?_; (case hd => rfl); (case hg => rfl); (case hr => go_simp); intro gb101 hg w10 hbox hb; have n0_ := Ak (below_step (HB.out) hb); have n1_ := Ak (hbox); have n2_ := Ak ((by rw [hg]; exact (below_size (HB.out)) : w.heap.size ≤ gb101)); have n3_ := n2_; clear HB; have HB := n0_; have BK101 := n1_; have GW101 := n2_; have GE101 := n3_; clear n0_ n1_ n2_ n3_; clear hb hbox hg) | ((with_reducible refine gate_dst (N := 3) rfl ?_); refine box_event ?hg (N := 3) ?hd (cs := #[.string a1_0, .string a1_1]) (t := 72) ?hr ?_; (case hd => rfl); (case hg => rfl); (case hr => go_simp); intro gb102 hg w11 hbox hb; have n0_ := Ak (blk_below BK101.out hb); have n1_ := Ak (below_step (HB.out) hb); have n2_ := Ak (hbox); have n3_ := Ak ((by rw [hg]; exact (below_size (HB.out)) : w.heap.size ≤ gb102)); have n4_ := n3_; have n5_ := Ak ((by rw [hg]; exact Nat.ne_of_lt (blk_lt BK101.out) : gb101 ≠ gb102)); have n6_ := Ak (Ne.symm n5_.out); clear BK101; clear HB; have BK101 := n0_; have HB := n1_; have BK102 := n2_; have GW102 := n3_; have GE102 := n4_; have NB101_102 := n5_; have NB102_101 := n6_; clear n0_ n1_ n2_ n3_ n4_ n5_ n6_; clear hb hbox hg; have hnb12 := NB101_102.out; have hnc12 := NB102_101.out; have hcz13_0 := blk_cell BK101.out 0; have hcz13_1 := blk_cell BK101.out 1; have hfz13_0 := blk_frozen BK101.out 0; have hfz13_1 := blk_frozen BK101.out 1; have hcz14_0 := blk_cell BK102.out 0; have hcz14_1 := blk_cell BK102.out 1; have hfz14_0 := blk_frozen BK102.out 0; have hfz14_1 := blk_frozen BK102.out 1))
   go_ret
   exact ⟨rfl, HB.out⟩
 ·rw [if_neg c3] at H
  have c3b0 := beq_eq_false_iff_ne.mpr c3
  have c3b1 := bne_iff_ne.mpr c3
  obtain rfl := Oi H
  go_enter Tryz.func96, Tryz.ntmps96
  go_wp2_with (first | ((with_reducible refine gate_dst (N := 2) rfl ?_); refine box_event ?hg (N := 2) ?hd (cs := #[.string a0_0, .string a0_1]) (t := 72) ?hr ?_; (case hd => rfl); (case hg => rfl); (case hr => go_simp); intro gb101 hg w15 hbox hb; have n0_ := Ak (below_step (HB.out) hb); have n1_ := Ak (hbox); have n2_ := Ak ((by rw [hg]; exact (below_size (HB.out)) : w.heap.size ≤ gb101)); have n3_ := n2_; clear HB; have HB := n0_; have BK101 := n1_; have GW101 := n2_; have GE101 := n3_; clear n0_ n1_ n2_ n3_; clear hb hbox hg) | ((with_reducible refine gate_dst (N := 3) rfl ?_); refine box_event ?hg (N := 3) ?hd (cs := #[.string a1_0, .string a1_1]) (t := 72) ?hr ?_; (case hd => rfl); (case hg => rfl); (case hr => go_simp); intro gb102 hg w16 hbox hb; have n0_ := Ak (blk_below BK101.out hb); have n1_ := Ak (below_step (HB.out) hb); have n2_ := Ak (hbox); have n3_ := Ak ((by rw [hg]; exact (below_size (HB.out)) : w.heap.size ≤ gb102)); have n4_ := n3_; have n5_ := Ak ((by rw [hg]; exact Nat.ne_of_lt (blk_lt BK101.out) : gb101 ≠ gb102)); have n6_ := Ak (Ne.symm n5_.out); clear BK101; clear HB; have BK101 := n0_; have HB := n1_; have BK102 := n2_; have GW102 := n3_; have GE102 := n4_; have NB101_102 := n5_; have NB102_101 := n6_; clear n0_ n1_ n2_ n3_ n4_ n5_ n6_; clear hb hbox hg; have hnb17 := NB101_102.out; have hnc17 := NB102_101.out; have hcz18_0 := blk_cell BK101.out 0; have hcz18_1 := blk_cell BK101.out 1; have hfz18_0 := blk_frozen BK101.out 0; have hfz18_1 := blk_frozen BK101.out 1; have hcz19_0 := blk_cell BK102.out 0; have hcz19_1 := blk_cell BK102.out 1; have hfz19_0 := blk_frozen BK102.out 0; have hfz19_1 := blk_frozen BK102.out 1))
  go_ret
  exact ⟨rfl, HB.out⟩
def laws_eqAttrS.l0 : Nat → List (S72) → List (S72) → Int → Option (Bool)
 | 0, _, _, _ => none
 | k + 1, x0, x1, x5 => if x5 < (x0.length : Int) then (if 0 ≤ x5 then (if x5 < (x1.length : Int) then ((laws_eqAttr.f ((rd_T72 x0 x5).f0) ((rd_T72 x0 x5).f1) ((rd_T72 x1 x5).f0) ((rd_T72 x1 x5).f1)).bind fun t103 => (if t103 = true then (laws_eqAttrS.l0 k x0 x1 (wrap64 (x5 + 1))) else (some false))) else (none)) else (none)) else (some true)
def laws_eqAttrS.f (k : Nat) (l0 : List (S72)) (l1 : List (S72)) : Option (Bool) := if (l0.length : Int) = (l1.length : Int) then (laws_eqAttrS.l0 k l0 l1 0) else (some false)
theorem laws_eqAttrS.mono_l : ∀ k, (∀ y0 y1 y2, LeO (laws_eqAttrS.l0 k y0 y1 y2) (laws_eqAttrS.l0 (k + 1) y0 y1 y2))
 | 0 => fun _ _ _ r h => by simp [laws_eqAttrS.l0] at h
 | k + 1 => by
  have ih0 := laws_eqAttrS.mono_l k
  ·intro y0 y1 y2
   unfold laws_eqAttrS.l0
   repeat' (with_reducible first | exact ih0 _ _ _ | exact LeO.refl _ | exact LeO.none _ | refine LeO.ite ?_ ?_ | refine LeO.bind ?_ (fun _ => ?_))
theorem laws_eqAttrS.mono : ∀ a0 a1 k, LeO (laws_eqAttrS.f k a0 a1) (laws_eqAttrS.f (k + 1) a0 a1) := by
 intro a0 a1 k
 have ih0 := laws_eqAttrS.mono_l k
 unfold laws_eqAttrS.f
 repeat' (with_reducible first | exact ih0 _ _ _ | exact LeO.refl _ | exact LeO.none _ | refine LeO.ite ?_ ?_ | refine LeO.bind ?_ (fun _ => ?_))
def laws_eqAttrS.T6 : Bool × List (List Nat × List Nat) := (true, [([], []), ([], []), ([0, 1], [0, 1]), ([2], [2]), ([], []), ([], []), ([4, 5], [4, 5]), ([6], [6]), ([3, 7], [3, 7]), ([8], [8])])
def laws_eqAttrS.B6 : List Nat := [0, 0, 3, 7, 0, 0, 48, 112, 255, 511]
theorem laws_eqAttrS.tab6 : rtab .any (opsOf Tryz.f69 6) = laws_eqAttrS.T6 := by kernel_rfl
theorem laws_eqAttrS.bits6 : waitsOk laws_eqAttrS.T6.2 laws_eqAttrS.B6 = true := by kernel_rfl
theorem laws_eqAttrS.calls (k : Nat) (A0 : Option Addr) (c0 : Nat) (l0 : List (S72)) (A1 : Option Addr) (c1 : Nat) (l1 : List (S72)) (r : Bool) (w : World) (hr0 : Kd.C k72 w A0 l0.length l0) (hc0 : l0.length ≤ c0) (hr1 : Kd.C k72 w A1 l1.length l1) (hc1 : l1.length ≤ c1) (h : laws_eqAttrS.f k l0 l1 = some r) :
 Calls Tryz.prog 69 #[.slice A0 l0.length c0, .slice A1 l1.length c1] w fun e w' => e = .returned (.bool r) ∧ Below w.heap.size w w' := by
 have hu72 := Tryz.underlying72
 have HR0 := Ak hr0
 have HC0 := Ak hc0
 clear hr0 hc0
 have HR1 := Ak hr1
 have HC1 := Ak hc1
 clear hr1 hc1
 have HB := Ak (Below.refl w.heap.size w)
 have H : (if (l0.length : Int) = (l1.length : Int) then (laws_eqAttrS.l0 k l0 l1 0) else (some false)) = some r := h
 clear h
 by_cases c3 : (l0.length : Int) = (l1.length : Int)
 ·rw [if_pos c3] at H
  have c3b0 := beq_iff_eq.mpr c3
  have c3b1 := bne_eq_false_iff_eq.mpr c3
  have c3b2 : (l0.length == l1.length) = true := by first | simpa using c3 | (simp at c3 ⊢; omega)
  clear c3
  have H' := Ak H
  clear H
  go_enter Tryz.func69, Tryz.ntmps69
  go_wp2
  go_loopg [5] k (fun kq v5 w' => ∃ (x5_1 : Int), v5 = .int .i64 x5_1 ∧ Aside0 (laws_eqAttrS.l0 kq l0 l1 x5_1 = some r) ∧ Aside0 (kq ≤ k) ∧ Aside0 (Below w.heap.size w w'))
  case atStart => exact ⟨(0), rfl, H', ⟨Nat.le_refl _⟩, ⟨HB.out⟩⟩
  case round =>
   clear H'
   obtain ⟨x5_1, rfl, HA, HK1, HB⟩ := hrel
   cases gk with
   | zero => exact absurd HA.out (by simp [laws_eqAttrS.l0])
   | succ k1 =>
    have H := HA.out
    clear HA
    simp only [laws_eqAttrS.l0] at H
    by_cases c4 : x5_1 < (l0.length : Int)
    ·rw [if_pos c4] at H
     have c4b0 := decide_eq_true c4
     clear c4
     by_cases c5 : 0 ≤ x5_1
     ·rw [if_pos c5] at H
      have c5b0 := decide_eq_true c5
      clear c5
      by_cases c6 : x5_1 < (l1.length : Int)
      ·rw [if_pos c6] at H
       have c6b0 := decide_eq_true c6
       clear c6
       replace H := Ob H
       obtain ⟨t103, A70, H⟩ := H
       replace H : (if t103 = true then (laws_eqAttrS.l0 k1 l0 l1 (wrap64 (x5_1 + 1))) else (some false)) = some r := H
       have A7 := Ak A70
       clear A70
       by_cases c8 : t103 = true
       ·subst c8
        rw [if_pos rfl] at H
        have H' := Ak H
        clear H
        try go_wp2
        have n0_ := Ak (below_drew1 HB.out)
        clear HB
        have HB := n0_
        clear n0_
        have p101 : 0 ≤ (x5_1 : Int) := of_decide_eq_true (by assumption)
        have q101 : x5_1 < (l0.length : Int) := of_decide_eq_true (by assumption)
        obtain ⟨ad101, e101, hx101_0, hx101_1⟩ := at_T72 HR0.out x5_1 p101 q101
        have hw101_1 := hx101_1
        have hw101_0 := hx101_0
        cases e101
        replace hx101_0 := pw_cell_below HB.out hx101_0
        replace hx101_1 := pw_cell_below HB.out hx101_1
        replace p101 := eq_true p101
        replace q101 := eq_true q101
        have p102 : 0 ≤ (x5_1 : Int) := of_decide_eq_true (by assumption)
        have q102 : x5_1 < (l1.length : Int) := of_decide_eq_true (by assumption)
        obtain ⟨ad102, e102, hx102_0, hx102_1⟩ := at_T72 HR1.out x5_1 p102 q102
        have hw102_1 := hx102_1
        have hw102_0 := hx102_0
        cases e102
        replace hx102_0 := pw_cell_below HB.out hx102_0
        replace hx102_1 := pw_cell_below HB.out hx102_1
        replace p102 := eq_true p102
        replace q102 := eq_true q102
        refine start_ (n := 10) (S := fun w' => w'.cell? (ad101.add ((x5_1).toNat * 2)) = some (.string ((rd_T72 l0 x5_1).f0)) ∧ w'.cell? ⟨(ad101.add ((x5_1).toNat * 2)).block, (ad101.add ((x5_1).toNat * 2)).off + 1, none⟩ = some (.string ((rd_T72 l0 x5_1).f1)) ∧ w'.cell? (ad102.add ((x5_1).toNat * 2)) = some (.string ((rd_T72 l1 x5_1).f0)) ∧ w'.cell? ⟨(ad102.add ((x5_1).toNat * 2)).block, (ad102.add ((x5_1).toNat * 2)).off + 1, none⟩ = some (.string ((rd_T72 l1 x5_1).f1))) (ds := []) #[false, false, false, false, false, false, false, false, false, false] (by kernel_rfl) rfl rfl ⟨(pw_cell_below HB.out hw101_0), (pw_cell_below HB.out hw101_1), (pw_cell_below HB.out hw102_0), (pw_cell_below HB.out hw102_1)⟩ (fun hHeld => ?_); refine with_tabW laws_eqAttrS.tab6 laws_eqAttrS.bits6 (fun HT_ HW_ => ?_)
        generalize wr.drew = w9 at HB hx101_0 hx101_1 hx102_0 hx102_1 hHeld ⊢
        refine pure_ (i := 0) (N := some 17) (v := ?_) (a' := ?_) #[true, false, false, false, false, false, false, false, false, false] rfl rfl (any_of HT_.out (by kernel_rfl)) (fun _ _ _ h => h) (Or.inl ⟨by rfl, ?_⟩) ?_ ?_
        rotate_left
        ·intro w'
         go_simp
         with_reducible rfl
        rotate_left
        ·simp only [Act.put, List.setIfInBounds_toArray, List.set_cons_zero, List.set_cons_succ, i64_w, i32_w]
         rfl
        refine pure_ (i := 1) (N := some 18) (v := ?_) (a' := ?_) #[true, true, false, false, false, false, false, false, false, false] rfl rfl (any_of HT_.out (by kernel_rfl)) (fun _ _ _ h => h) (Or.inl ⟨by rfl, ?_⟩) ?_ ?_
        rotate_left
        ·intro w'
         go_simp
         with_reducible rfl
        rotate_left
        ·simp only [Act.put, List.setIfInBounds_toArray, List.set_cons_zero, List.set_cons_succ, i64_w, i32_w]
         rfl
        refine pure_ (i := 2) (N := some 19) (v := ?_) (a' := ?_) #[true, true, true, false, false, false, false, false, false, false] rfl rfl (any_of HT_.out (by kernel_rfl)) (fun _ _ _ h => h) (Or.inl ⟨by rfl, ?_⟩) ?_ ?_
        rotate_left
        ·intro w'
         go_simp
         with_reducible rfl
        rotate_left
        ·simp only [Act.put, List.setIfInBounds_toArray, List.set_cons_zero, List.set_cons_succ, i64_w, i32_w]
         rfl
        refine pure_ (i := 4) (N := some 21) (v := ?_) (a' := ?_) #[true, true, true, false, true, false, false, false, false, false] rfl rfl (any_of HT_.out (by kernel_rfl)) (fun _ _ _ h => h) (Or.inl ⟨by rfl, ?_⟩) ?_ ?_
        rotate_left
        ·intro w'
         go_simp
         with_reducible rfl
        rotate_left
        ·simp only [Act.put, List.setIfInBounds_toArray, List.set_cons_zero, List.set_cons_succ, i64_w, i32_w]
         rfl
        refine pure_ (i := 5) (N := some 22) (v := ?_) (a' := ?_) #[true, true, true, false, true, true, false, false, false, false] rfl rfl (any_of HT_.out (by kernel_rfl)) (fun _ _ _ h => h) (Or.inl ⟨by rfl, ?_⟩) ?_ ?_
        rotate_left
        ·intro w'
         go_simp
         with_reducible rfl
        rotate_left
        ·simp only [Act.put, List.setIfInBounds_toArray, List.set_cons_zero, List.set_cons_succ, i64_w, i32_w]
         rfl
        refine pure_ (i := 6) (N := some 23) (v := ?_) (a' := ?_) #[true, true, true, false, true, true, true, false, false, false] rfl rfl (any_of HT_.out (by kernel_rfl)) (fun _ _ _ h => h) (Or.inl ⟨by rfl, ?_⟩) ?_ ?_
        rotate_left
        ·intro w'
         go_simp
         with_reducible rfl
        rotate_left
        ·simp only [Act.put, List.setIfInBounds_toArray, List.set_cons_zero, List.set_cons_succ, i64_w, i32_w]
         rfl
        refine take_ (i := 3) (N := some 20) (v := ?_) (a' := ?_) #[true, true, true, true, true, true, true, false, false, false] rfl rfl (take_ofW HT_.out HW_.out (by kernel_rfl)) (fun _ _ _ h => h) (Or.inl ⟨by rfl, ?_⟩) hHeld ?_ ?_
        rotate_left
        ·rintro w' ⟨s0, s1, s2, s3⟩
         go_simp
         with_reducible rfl
        rotate_left
        ·simp only [Act.put, List.setIfInBounds_toArray, List.set_cons_zero, List.set_cons_succ, i64_w, i32_w]
         rfl
        refine take_ (i := 7) (N := some 24) (v := ?_) (a' := ?_) #[true, true, true, true, true, true, true, true, false, false] rfl rfl (take_ofW HT_.out HW_.out (by kernel_rfl)) (fun _ _ _ h => h) (Or.inl ⟨by rfl, ?_⟩) hHeld ?_ ?_
        rotate_left
        ·rintro w' ⟨s0, s1, s2, s3⟩
         go_simp
         with_reducible rfl
        rotate_left
        ·simp only [Act.put, List.setIfInBounds_toArray, List.set_cons_zero, List.set_cons_succ, i64_w, i32_w]
         rfl
        refine one_ (i := 8) (N := some 25) #[true, true, true, true, true, true, true, true, true, false] rfl rfl (one_of HT_.out (by kernel_rfl)) (by decide) (fun K hK => ?_)
        refine goes_ Tryz.func96 (by kernel_rfl) rfl #[.agg #[.string ((rd_T72 l0 x5_1).f0), .string ((rd_T72 l0 x5_1).f1)], .agg #[.string ((rd_T72 l1 x5_1).f0), .string ((rd_T72 l1 x5_1).f1)]] (by rfl) rfl rfl (by (try simp only [List.map_toArray, List.map_cons, List.map_nil]); first | done | rfl | (simp only [List.length_drop, List.length_take]; rfl)) ?_
        with_reducible refine (laws_eqAttr.calls ((rd_T72 l0 x5_1).f0) ((rd_T72 l0 x5_1).f1) ((rd_T72 l1 x5_1).f0) ((rd_T72 l1 x5_1).f1) true _ A7.out).mono ?_
        rintro e w10 ⟨rfl, hb⟩
        refine ⟨_, rfl, ?_⟩
        have n0_ := Ak (below_step (HB.out) hb)
        clear HB
        have HB := n0_
        clear n0_
        (try clear hb)
        (try clear hb2)
        (try clear hk)
        (try clear hi)
        refine hK.out _ _ ⟨(pw_cell_below HB.out hw101_0), (pw_cell_below HB.out hw101_1), (pw_cell_below HB.out hw102_0), (pw_cell_below HB.out hw102_1)⟩ (fun hHeld => ?_)
        clear hK K
        refine norm_ (a' := ?_) ?_ ?_
        rotate_left
        ·show Act.put _ (some 25) _ = _
         simp only [Act.put, List.setIfInBounds_toArray, List.set_cons_zero, List.set_cons_succ, i64_w, i32_w]
         rfl
        refine pure_ (i := 9) (N := some 26) (v := ?_) (a' := ?_) #[true, true, true, true, true, true, true, true, true, true] rfl rfl (any_of HT_.out (by kernel_rfl)) (fun _ _ _ h => h) (Or.inl ⟨by rfl, ?_⟩) ?_ ?_
        rotate_left
        ·intro w'
         go_simp
         with_reducible rfl
        rotate_left
        ·simp only [Act.put, List.setIfInBounds_toArray, List.set_cons_zero, List.set_cons_succ, i64_w, i32_w]
         rfl
        refine done_ (done_of HT_.out (by kernel_rfl)) ?_
        try go_wp2
        go_roundg k1
        case measure => have := HK1.out; omega
        case rel => exact ⟨(wrap64 (x5_1 + 1)), rfl, H', ⟨by have := HK1.out; omega⟩, ⟨HB.out⟩⟩
       ·replace c8 := Bool.eq_false_iff.mpr c8
        subst c8
        rw [if_neg (show ¬ (false = true) by decide)] at H
        obtain rfl := Oi H
        try go_wp2
        have n0_ := Ak (below_drew1 HB.out)
        clear HB
        have HB := n0_
        clear n0_
        have p101 : 0 ≤ (x5_1 : Int) := of_decide_eq_true (by assumption)
        have q101 : x5_1 < (l0.length : Int) := of_decide_eq_true (by assumption)
        obtain ⟨ad101, e101, hx101_0, hx101_1⟩ := at_T72 HR0.out x5_1 p101 q101
        have hw101_1 := hx101_1
        have hw101_0 := hx101_0
        cases e101
        replace hx101_0 := pw_cell_below HB.out hx101_0
        replace hx101_1 := pw_cell_below HB.out hx101_1
        replace p101 := eq_true p101
        replace q101 := eq_true q101
        have p102 : 0 ≤ (x5_1 : Int) := of_decide_eq_true (by assumption)
        have q102 : x5_1 < (l1.length : Int) := of_decide_eq_true (by assumption)
        obtain ⟨ad102, e102, hx102_0, hx102_1⟩ := at_T72 HR1.out x5_1 p102 q102
        have hw102_1 := hx102_1
        have hw102_0 := hx102_0
        cases e102
        replace hx102_0 := pw_cell_below HB.out hx102_0
        replace hx102_1 := pw_cell_below HB.out hx102_1
        replace p102 := eq_true p102
        replace q102 := eq_true q102
        refine start_ (n := 10) (S := fun w' => w'.cell? (ad101.add ((x5_1).toNat * 2)) = some (.string ((rd_T72 l0 x5_1).f0)) ∧ w'.cell? ⟨(ad101.add ((x5_1).toNat * 2)).block, (ad101.add ((x5_1).toNat * 2)).off + 1, none⟩ = some (.string ((rd_T72 l0 x5_1).f1)) ∧ w'.cell? (ad102.add ((x5_1).toNat * 2)) = some (.string ((rd_T72 l1 x5_1).f0)) ∧ w'.cell? ⟨(ad102.add ((x5_1).toNat * 2)).block, (ad102.add ((x5_1).toNat * 2)).off + 1, none⟩ = some (.string ((rd_T72 l1 x5_1).f1))) (ds := []) #[false, false, false, false, false, false, false, false, false, false] (by kernel_rfl) rfl rfl ⟨(pw_cell_below HB.out hw101_0), (pw_cell_below HB.out hw101_1), (pw_cell_below HB.out hw102_0), (pw_cell_below HB.out hw102_1)⟩ (fun hHeld => ?_); refine with_tabW laws_eqAttrS.tab6 laws_eqAttrS.bits6 (fun HT_ HW_ => ?_)
        generalize wr.drew = w11 at HB hx101_0 hx101_1 hx102_0 hx102_1 hHeld ⊢
        refine pure_ (i := 0) (N := some 17) (v := ?_) (a' := ?_) #[true, false, false, false, false, false, false, false, false, false] rfl rfl (any_of HT_.out (by kernel_rfl)) (fun _ _ _ h => h) (Or.inl ⟨by rfl, ?_⟩) ?_ ?_
        rotate_left
        ·intro w'
         go_simp
         with_reducible rfl
        rotate_left
        ·simp only [Act.put, List.setIfInBounds_toArray, List.set_cons_zero, List.set_cons_succ, i64_w, i32_w]
         rfl
        refine pure_ (i := 1) (N := some 18) (v := ?_) (a' := ?_) #[true, true, false, false, false, false, false, false, false, false] rfl rfl (any_of HT_.out (by kernel_rfl)) (fun _ _ _ h => h) (Or.inl ⟨by rfl, ?_⟩) ?_ ?_
        rotate_left
        ·intro w'
         go_simp
         with_reducible rfl
        rotate_left
        ·simp only [Act.put, List.setIfInBounds_toArray, List.set_cons_zero, List.set_cons_succ, i64_w, i32_w]
         rfl
        refine pure_ (i := 2) (N := some 19) (v := ?_) (a' := ?_) #[true, true, true, false, false, false, false, false, false, false] rfl rfl (any_of HT_.out (by kernel_rfl)) (fun _ _ _ h => h) (Or.inl ⟨by rfl, ?_⟩) ?_ ?_
        rotate_left
        ·intro w'
         go_simp
         with_reducible rfl
        rotate_left
        ·simp only [Act.put, List.setIfInBounds_toArray, List.set_cons_zero, List.set_cons_succ, i64_w, i32_w]
         rfl
        refine pure_ (i := 4) (N := some 21) (v := ?_) (a' := ?_) #[true, true, true, false, true, false, false, false, false, false] rfl rfl (any_of HT_.out (by kernel_rfl)) (fun _ _ _ h => h) (Or.inl ⟨by rfl, ?_⟩) ?_ ?_
        rotate_left
        ·intro w'
         go_simp
         with_reducible rfl
        rotate_left
        ·simp only [Act.put, List.setIfInBounds_toArray, List.set_cons_zero, List.set_cons_succ, i64_w, i32_w]
         rfl
        refine pure_ (i := 5) (N := some 22) (v := ?_) (a' := ?_) #[true, true, true, false, true, true, false, false, false, false] rfl rfl (any_of HT_.out (by kernel_rfl)) (fun _ _ _ h => h) (Or.inl ⟨by rfl, ?_⟩) ?_ ?_
        rotate_left
        ·intro w'
         go_simp
         with_reducible rfl
        rotate_left
        ·simp only [Act.put, List.setIfInBounds_toArray, List.set_cons_zero, List.set_cons_succ, i64_w, i32_w]
         rfl
        refine pure_ (i := 6) (N := some 23) (v := ?_) (a' := ?_) #[true, true, true, false, true, true, true, false, false, false] rfl rfl (any_of HT_.out (by kernel_rfl)) (fun _ _ _ h => h) (Or.inl ⟨by rfl, ?_⟩) ?_ ?_
        rotate_left
        ·intro w'
         go_simp
         with_reducible rfl
        rotate_left
        ·simp only [Act.put, List.setIfInBounds_toArray, List.set_cons_zero, List.set_cons_succ, i64_w, i32_w]
         rfl
        refine take_ (i := 3) (N := some 20) (v := ?_) (a' := ?_) #[true, true, true, true, true, true, true, false, false, false] rfl rfl (take_ofW HT_.out HW_.out (by kernel_rfl)) (fun _ _ _ h => h) (Or.inl ⟨by rfl, ?_⟩) hHeld ?_ ?_
        rotate_left
        ·rintro w' ⟨s0, s1, s2, s3⟩
         go_simp
         with_reducible rfl
        rotate_left
        ·simp only [Act.put, List.setIfInBounds_toArray, List.set_cons_zero, List.set_cons_succ, i64_w, i32_w]
         rfl
        refine take_ (i := 7) (N := some 24) (v := ?_) (a' := ?_) #[true, true, true, true, true, true, true, true, false, false] rfl rfl (take_ofW HT_.out HW_.out (by kernel_rfl)) (fun _ _ _ h => h) (Or.inl ⟨by rfl, ?_⟩) hHeld ?_ ?_
        rotate_left
        ·rintro w' ⟨s0, s1, s2, s3⟩
         go_simp
         with_reducible rfl
        rotate_left
        ·simp only [Act.put, List.setIfInBounds_toArray, List.set_cons_zero, List.set_cons_succ, i64_w, i32_w]
         rfl
        refine one_ (i := 8) (N := some 25) #[true, true, true, true, true, true, true, true, true, false] rfl rfl (one_of HT_.out (by kernel_rfl)) (by decide) (fun K hK => ?_)
        refine goes_ Tryz.func96 (by kernel_rfl) rfl #[.agg #[.string ((rd_T72 l0 x5_1).f0), .string ((rd_T72 l0 x5_1).f1)], .agg #[.string ((rd_T72 l1 x5_1).f0), .string ((rd_T72 l1 x5_1).f1)]] (by rfl) rfl rfl (by (try simp only [List.map_toArray, List.map_cons, List.map_nil]); first | done | rfl | (simp only [List.length_drop, List.length_take]; rfl)) ?_
        with_reducible refine (laws_eqAttr.calls ((rd_T72 l0 x5_1).f0) ((rd_T72 l0 x5_1).f1) ((rd_T72 l1 x5_1).f0) ((rd_T72 l1 x5_1).f1) false _ A7.out).mono ?_
        rintro e w12 ⟨rfl, hb⟩
        refine ⟨_, rfl, ?_⟩
        have n0_ := Ak (below_step (HB.out) hb)
        clear HB
        have HB := n0_
        clear n0_
        (try clear hb)
        (try clear hb2)
        (try clear hk)
        (try clear hi)
        refine hK.out _ _ ⟨(pw_cell_below HB.out hw101_0), (pw_cell_below HB.out hw101_1), (pw_cell_below HB.out hw102_0), (pw_cell_below HB.out hw102_1)⟩ (fun hHeld => ?_)
        clear hK K
        refine norm_ (a' := ?_) ?_ ?_
        rotate_left
        ·show Act.put _ (some 25) _ = _
         simp only [Act.put, List.setIfInBounds_toArray, List.set_cons_zero, List.set_cons_succ, i64_w, i32_w]
         rfl
        refine pure_ (i := 9) (N := some 26) (v := ?_) (a' := ?_) #[true, true, true, true, true, true, true, true, true, true] rfl rfl (any_of HT_.out (by kernel_rfl)) (fun _ _ _ h => h) (Or.inl ⟨by rfl, ?_⟩) ?_ ?_
        rotate_left
        ·intro w'
         go_simp
         with_reducible rfl
        rotate_left
        ·simp only [Act.put, List.setIfInBounds_toArray, List.set_cons_zero, List.set_cons_succ, i64_w, i32_w]
         rfl
        refine done_ (done_of HT_.out (by kernel_rfl)) ?_
        try go_wp2
        go_ret
        exact ⟨rfl, HB.out⟩
      ·rw [if_neg c6] at H
       exact absurd H (by simp)
     ·rw [if_neg c5] at H
      exact absurd H (by simp)
    ·rw [if_neg c4] at H
     have c4b0 := decide_eq_false c4
     clear c4
     obtain rfl := Oi H
     go_wp2
     go_ret
     exact ⟨rfl, HB.out⟩
 ·rw [if_neg c3] at H
  have c3b0 := beq_eq_false_iff_ne.mpr c3
  have c3b1 := bne_iff_ne.mpr c3
  have c3b2 : (l0.length == l1.length) = false := by first | simpa using c3 | (simp at c3 ⊢; omega)
  obtain rfl := Oi H
  go_enter Tryz.func69, Tryz.ntmps69
  go_wp2
  go_ret
  exact ⟨rfl, HB.out⟩
def laws_eqIntS.l0 : Nat → List Int → List Int → Int → Option (Bool)
 | 0, _, _, _ => none
 | k + 1, x0, x1, x5 => if x5 < (x0.length : Int) then (if 0 ≤ x5 then (if x5 < (x1.length : Int) then (if (rd x0 x5) = (rd x1 x5) then (laws_eqIntS.l0 k x0 x1 (wrap64 (x5 + 1))) else (some false)) else (none)) else (none)) else (some true)
def laws_eqIntS.f (k : Nat) (l0 : List Int) (l1 : List Int) : Option (Bool) := if (l0.length : Int) = (l1.length : Int) then (laws_eqIntS.l0 k l0 l1 0) else (some false)
theorem laws_eqIntS.mono_l : ∀ k, (∀ y0 y1 y2, LeO (laws_eqIntS.l0 k y0 y1 y2) (laws_eqIntS.l0 (k + 1) y0 y1 y2))
 | 0 => fun _ _ _ r h => by simp [laws_eqIntS.l0] at h
 | k + 1 => by
  have ih0 := laws_eqIntS.mono_l k
  ·intro y0 y1 y2
   unfold laws_eqIntS.l0
   repeat' (with_reducible first | exact ih0 _ _ _ | exact LeO.refl _ | exact LeO.none _ | refine LeO.ite ?_ ?_ | refine LeO.bind ?_ (fun _ => ?_))
theorem laws_eqIntS.mono : ∀ a0 a1 k, LeO (laws_eqIntS.f k a0 a1) (laws_eqIntS.f (k + 1) a0 a1) := by
 intro a0 a1 k
 have ih0 := laws_eqIntS.mono_l k
 unfold laws_eqIntS.f
 repeat' (with_reducible first | exact ih0 _ _ _ | exact LeO.refl _ | exact LeO.none _ | refine LeO.ite ?_ ?_ | refine LeO.bind ?_ (fun _ => ?_))
theorem laws_eqIntS.calls (k : Nat) (A0 : Option Addr) (c0 : Nat) (l0 : List Int) (A1 : Option Addr) (c1 : Nat) (l1 : List Int) (r : Bool) (w : World) (hr0 : Kd.C (Kd.int .i64) w A0 l0.length l0) (hc0 : l0.length ≤ c0) (hr1 : Kd.C (Kd.int .i64) w A1 l1.length l1) (hc1 : l1.length ≤ c1) (h : laws_eqIntS.f k l0 l1 = some r) :
 Calls Tryz.prog 70 #[.slice A0 l0.length c0, .slice A1 l1.length c1] w fun e w' => e = .returned (.bool r) ∧ Drawn0 w w' := by
 have HR0 := Ak hr0
 have HC0 := Ak hc0
 clear hr0 hc0
 have HR1 := Ak hr1
 have HC1 := Ak hc1
 clear hr1 hc1
 have H : (if (l0.length : Int) = (l1.length : Int) then (laws_eqIntS.l0 k l0 l1 0) else (some false)) = some r := h
 clear h
 by_cases c3 : (l0.length : Int) = (l1.length : Int)
 ·rw [if_pos c3] at H
  have c3b0 := beq_iff_eq.mpr c3
  have c3b1 := bne_eq_false_iff_eq.mpr c3
  have c3b2 : (l0.length == l1.length) = true := by first | simpa using c3 | (simp at c3 ⊢; omega)
  clear c3
  have H' := Ak H
  clear H
  go_enter Tryz.func70, Tryz.ntmps70
  go_wp2
  repeat (go_quiet (fail); try go_wp2)
  go_loopg [5] k (fun kq v5 w' => ∃ (x5_1 : Int), v5 = .int .i64 x5_1 ∧ Aside0 (laws_eqIntS.l0 kq l0 l1 x5_1 = some r) ∧ Aside0 (kq ≤ k) ∧ Drawn0 w w')
  case atStart => exact ⟨(0), rfl, H', ⟨Nat.le_refl _⟩, by repeat (first | exact Drawn0.refl _ | apply Drawn0.step)⟩
  case round =>
   clear H'
   obtain ⟨x5_1, rfl, HA, HK1, ⟨m1, rfl⟩⟩ := hrel
   cases gk with
   | zero => exact absurd HA.out (by simp [laws_eqIntS.l0])
   | succ k1 =>
    have H := HA.out
    clear HA
    simp only [laws_eqIntS.l0] at H
    by_cases c4 : x5_1 < (l0.length : Int)
    ·rw [if_pos c4] at H
     have c4b0 := decide_eq_true c4
     clear c4
     by_cases c5 : 0 ≤ x5_1
     ·rw [if_pos c5] at H
      have c5b0 := decide_eq_true c5
      clear c5
      by_cases c6 : x5_1 < (l1.length : Int)
      ·rw [if_pos c6] at H
       have c6b0 := decide_eq_true c6
       clear c6
       by_cases c7 : (rd l0 x5_1) = (rd l1 x5_1)
       ·rw [if_pos c7] at H
        have c7b0 := beq_iff_eq.mpr c7
        have c7b1 := bne_eq_false_iff_eq.mpr c7
        clear c7
        have H' := Ak H
        clear H
        have p101 : 0 ≤ (x5_1 : Int) := of_decide_eq_true (by assumption)
        have q101 : x5_1 < (l0.length : Int) := of_decide_eq_true (by assumption)
        obtain ⟨ad101, e101, hx101_0⟩ := Kd.at_int HR0.out x5_1 p101 q101
        cases e101
        replace p101 := eq_true p101
        replace q101 := eq_true q101
        have p102 : 0 ≤ (x5_1 : Int) := of_decide_eq_true (by assumption)
        have q102 : x5_1 < (l1.length : Int) := of_decide_eq_true (by assumption)
        obtain ⟨ad102, e102, hx102_0⟩ := Kd.at_int HR1.out x5_1 p102 q102
        cases e102
        replace p102 := eq_true p102
        replace q102 := eq_true q102
        go_wp2
        repeat (go_quiet (fail); try go_wp2)
        go_roundg k1
        case measure => have := HK1.out; omega
        case rel => exact ⟨(wrap64 (x5_1 + 1)), rfl, H', ⟨by have := HK1.out; omega⟩, by repeat (first | exact Drawn0.refl _ | apply Drawn0.step)⟩
       ·rw [if_neg c7] at H
        have c7b0 := beq_eq_false_iff_ne.mpr c7
        have c7b1 := bne_iff_ne.mpr c7
        obtain rfl := Oi H
        have p101 : 0 ≤ (x5_1 : Int) := of_decide_eq_true (by assumption)
        have q101 : x5_1 < (l0.length : Int) := of_decide_eq_true (by assumption)
        obtain ⟨ad101, e101, hx101_0⟩ := Kd.at_int HR0.out x5_1 p101 q101
        cases e101
        replace p101 := eq_true p101
        replace q101 := eq_true q101
        have p102 : 0 ≤ (x5_1 : Int) := of_decide_eq_true (by assumption)
        have q102 : x5_1 < (l1.length : Int) := of_decide_eq_true (by assumption)
        obtain ⟨ad102, e102, hx102_0⟩ := Kd.at_int HR1.out x5_1 p102 q102
        cases e102
        replace p102 := eq_true p102
        replace q102 := eq_true q102
        go_wp2
        repeat (go_quiet (fail); try go_wp2)
        go_ret
        exact ⟨rfl, by repeat (first | exact Drawn0.refl _ | apply Drawn0.step)⟩
      ·rw [if_neg c6] at H
       exact absurd H (by simp)
     ·rw [if_neg c5] at H
      exact absurd H (by simp)
    ·rw [if_neg c4] at H
     have c4b0 := decide_eq_false c4
     clear c4
     obtain rfl := Oi H
     go_wp2
     repeat (go_quiet (fail); try go_wp2)
     go_ret
     exact ⟨rfl, by repeat (first | exact Drawn0.refl _ | apply Drawn0.step)⟩
 ·rw [if_neg c3] at H
  have c3b0 := beq_eq_false_iff_ne.mpr c3
  have c3b1 := bne_iff_ne.mpr c3
  have c3b2 : (l0.length == l1.length) = false := by first | simpa using c3 | (simp at c3 ⊢; omega)
  obtain rfl := Oi H
  go_enter Tryz.func70, Tryz.ntmps70
  go_wp2
  repeat (go_quiet (fail); try go_wp2)
  go_ret
  exact ⟨rfl, by repeat (first | exact Drawn0.refl _ | apply Drawn0.step)⟩
def laws_eqNode.f (k : Nat) (a0_0 : Int) (a0_1 : ByteArray) (l0_2 : List S72) (a0_3 : ByteArray) (a0_4 : Int) (l0_5 : List Int) (a1_0 : Int) (a1_1 : ByteArray) (l1_2 : List S72) (a1_3 : ByteArray) (a1_4 : Int) (l1_5 : List Int) : Option Bool := if a0_0 = a1_0 then (if a0_1.toList = a1_1.toList then ((laws_eqAttrS.f k l0_2 l1_2).bind fun t103 => (if t103 = true then (if a0_3.toList = a1_3.toList then (if a0_4 = a1_4 then ((laws_eqIntS.f k l0_5 l1_5).bind fun t104 => (if t104 = true then (some true) else (some false))) else (some false)) else (some false)) else (some false))) else (some false)) else (some false)
theorem laws_eqNode.mono : ∀ a0 a1 a2 a3 a4 a5 a6 a7 a8 a9 a10 a11 k, LeO (laws_eqNode.f k a0 a1 a2 a3 a4 a5 a6 a7 a8 a9 a10 a11) (laws_eqNode.f (k + 1) a0 a1 a2 a3 a4 a5 a6 a7 a8 a9 a10 a11) := fun _ _ _ _ _ _ _ _ _ _ _ _ k => LeO.ite (LeO.ite (LeO.bind (laws_eqAttrS.mono _ _ k) (fun _ => LeO.ite (LeO.ite (LeO.ite (LeO.bind (laws_eqIntS.mono _ _ k) (fun _ => LeO.refl _)) (LeO.refl _)) (LeO.refl _)) (LeO.refl _))) (LeO.refl _)) (LeO.refl _)
theorem laws_eqNode.calls (k : Nat) (a0_0 : Int) (a0_1 : ByteArray) (A0_2 : Option Addr) (c0_2 : Nat) (l0_2 : List S72) (a0_3 : ByteArray) (a0_4 : Int) (A0_5 : Option Addr) (c0_5 : Nat) (l0_5 : List Int) (a1_0 : Int) (a1_1 : ByteArray) (A1_2 : Option Addr) (c1_2 : Nat) (l1_2 : List S72) (a1_3 : ByteArray) (a1_4 : Int) (A1_5 : Option Addr) (c1_5 : Nat) (l1_5 : List Int) (r : Bool) (w : World) (hr0_2 : Kd.C k72 w A0_2 l0_2.length l0_2) (hc0_2 : l0_2.length ≤ c0_2) (hr0_5 : Kd.C (Kd.int .i64) w A0_5 l0_5.length l0_5) (hc0_5 : l0_5.length ≤ c0_5) (hr1_2 : Kd.C k72 w A1_2 l1_2.length l1_2) (hc1_2 : l1_2.length ≤ c1_2) (hr1_5 : Kd.C (Kd.int .i64) w A1_5 l1_5.length l1_5) (hc1_5 : l1_5.length ≤ c1_5) (h : laws_eqNode.f k a0_0 a0_1 l0_2 a0_3 a0_4 l0_5 a1_0 a1_1 l1_2 a1_3 a1_4 l1_5 = some r) :
 Calls Tryz.prog 44 #[.agg #[.int .i64 a0_0, .string a0_1, .slice A0_2 l0_2.length c0_2, .string a0_3, .int .i64 a0_4, .slice A0_5 l0_5.length c0_5], .agg #[.int .i64 a1_0, .string a1_1, .slice A1_2 l1_2.length c1_2, .string a1_3, .int .i64 a1_4, .slice A1_5 l1_5.length c1_5]] w fun e w' => e = .returned (.bool r) ∧ Below w.heap.size w w' := by
 unfold laws_eqNode.f at h
 have HC2 := Ak hr0_2
 have HC5 := Ak hr0_5
 have HD2 := Ak hr1_2
 have HD5 := Ak hr1_5
 have HL2 := Ak hc0_2
 have HL5 := Ak hc0_5
 have HM2 := Ak hc1_2
 have HM5 := Ak hc1_5
 have HA := Ak h
 clear hr0_2 hr0_5 hr1_2 hr1_5 hc0_2 hc0_5 hc1_2 hc1_5 h
 go_enter Tryz.func44, Tryz.ntmps44
 go_upto_region 1 with (first
  | ((with_reducible refine gate_dst (N := 2) rfl ?_); refine box_event ?hg (N := 2) ?hd (cs := #[.int .i64 a0_0, .string a0_1, .slice A0_2 l0_2.length c0_2, .string a0_3, .int .i64 a0_4, .slice A0_5 l0_5.length c0_5]) (t := 41) ?hr ?_; (case hd => rfl); (case hg => rfl); (case hr => first | (go_simp; done) | (go_simp; rfl)); intro gx hg w1 hbox hb; have HX1 := Ak hbox; have HB1 := Ak hb; clear hbox hb hg)
  | ((with_reducible refine gate_dst (N := 3) rfl ?_); refine box_event ?hg (N := 3) ?hd (cs := #[.int .i64 a1_0, .string a1_1, .slice A1_2 l1_2.length c1_2, .string a1_3, .int .i64 a1_4, .slice A1_5 l1_5.length c1_5]) (t := 41) ?hr ?_; (case hd => rfl); (case hg => rfl); (case hr => first | (go_simp; done) | (go_simp; rfl)); intro gy hg w2 hbox hb; have HX := Ak (blk_below HX1.out hb); have HY := Ak hbox; have HB2 := Ak (below_step HB1.out hb); clear hbox hb hg))
 have hx0 := blk_cell HX.out 0
 have hx1 := blk_cell HX.out 1
 have hx2 := blk_cell HX.out 2
 have hx3 := blk_cell HX.out 3
 have hx4 := blk_cell HX.out 4
 have hx5 := blk_cell HX.out 5
 have hy0 := blk_cell HY.out 0
 have hy1 := blk_cell HY.out 1
 have hy2 := blk_cell HY.out 2
 have hy3 := blk_cell HY.out 3
 have hy4 := blk_cell HY.out 4
 have hy5 := blk_cell HY.out 5
 have h := HA.out
 clear HA
 by_cases c0 : a0_0 = a1_0
 ·rw [if_pos c0] at h
  have qc0 : (a0_0 == a1_0) = true := beq_iff_eq.mpr c0
  replace c0 : (a0_0 != a1_0) = false := bne_eq_false_iff_eq.mpr c0
  by_cases c1 : a0_1.toList = a1_1.toList
  ·rw [if_pos c1] at h
   have qc1 : (a0_1.toList == a1_1.toList) = true := beq_iff_eq.mpr c1
   replace c1 : (a0_1.toList != a1_1.toList) = false := bne_eq_false_iff_eq.mpr c1
   obtain ⟨t1, A1, h⟩ := Ob h
   replace A1 := Ak A1
   cases t1 with
   | false =>
    rw [if_neg (by decide)] at h
    obtain rfl := Oi h
    clear h
    go_wp2_with (first | (go_at_call 69; (with_reducible refine (laws_eqAttrS.calls k _ _ l0_2 _ _ l1_2 false w2 (Kd.C_below HC2.out HB2.out) HL2.out (Kd.C_below HD2.out HB2.out) HM2.out A1.out).mono ?_); rintro e w3 ⟨rfl, hb⟩; have HB3 := Ak (below_step HB2.out hb);  clear hb))
    go_ret
    exact ⟨rfl, HB3.out⟩
   | true =>
    rw [if_pos rfl] at h
    by_cases c3 : a0_3.toList = a1_3.toList
    ·rw [if_pos c3] at h
     have qc3 : (a0_3.toList == a1_3.toList) = true := beq_iff_eq.mpr c3
     replace c3 : (a0_3.toList != a1_3.toList) = false := bne_eq_false_iff_eq.mpr c3
     by_cases c4 : a0_4 = a1_4
     ·rw [if_pos c4] at h
      have qc4 : (a0_4 == a1_4) = true := beq_iff_eq.mpr c4
      replace c4 : (a0_4 != a1_4) = false := bne_eq_false_iff_eq.mpr c4
      obtain ⟨t2, A2, h⟩ := Ob h
      replace A2 := Ak A2
      cases t2 with
      | false =>
       rw [if_neg (by decide)] at h
       obtain rfl := Oi h
       clear h
       go_wp2_with (first | (go_at_call 69; (with_reducible refine (laws_eqAttrS.calls k _ _ l0_2 _ _ l1_2 true w2 (Kd.C_below HC2.out HB2.out) HL2.out (Kd.C_below HD2.out HB2.out) HM2.out A1.out).mono ?_); rintro e w3 ⟨rfl, hb⟩; have HB3 := Ak (below_step HB2.out hb); have HX3 := blk_below HX.out hb; have HY3 := blk_below HY.out hb; have hx3' := blk_cell HX3 3; have hy3' := blk_cell HY3 3; have hx4' := blk_cell HX3 4; have hy4' := blk_cell HY3 4; have hx5' := blk_cell HX3 5; have hy5' := blk_cell HY3 5; clear HX3 HY3; clear hb) | (go_at_call 70; (with_reducible refine (laws_eqIntS.calls k _ _ l0_5 _ _ l1_5 false w3 (Kd.C_below HC5.out HB3.out) HL5.out (Kd.C_below HD5.out HB3.out) HM5.out A2.out).mono ?_); rintro e w4 ⟨rfl, ⟨nd, rfl⟩⟩; have HB4 := Ak (pw_below_drewN HB3.out nd)))
       go_ret
       exact ⟨rfl, HB4.out⟩
      | true =>
       rw [if_pos rfl] at h
       obtain rfl := Oi h
       clear h
       go_wp2_with (first | (go_at_call 69; (with_reducible refine (laws_eqAttrS.calls k _ _ l0_2 _ _ l1_2 true w2 (Kd.C_below HC2.out HB2.out) HL2.out (Kd.C_below HD2.out HB2.out) HM2.out A1.out).mono ?_); rintro e w3 ⟨rfl, hb⟩; have HB3 := Ak (below_step HB2.out hb); have HX3 := blk_below HX.out hb; have HY3 := blk_below HY.out hb; have hx3' := blk_cell HX3 3; have hy3' := blk_cell HY3 3; have hx4' := blk_cell HX3 4; have hy4' := blk_cell HY3 4; have hx5' := blk_cell HX3 5; have hy5' := blk_cell HY3 5; clear HX3 HY3; clear hb) | (go_at_call 70; (with_reducible refine (laws_eqIntS.calls k _ _ l0_5 _ _ l1_5 true w3 (Kd.C_below HC5.out HB3.out) HL5.out (Kd.C_below HD5.out HB3.out) HM5.out A2.out).mono ?_); rintro e w4 ⟨rfl, ⟨nd, rfl⟩⟩; have HB4 := Ak (pw_below_drewN HB3.out nd)))
       go_ret
       exact ⟨rfl, HB4.out⟩
     ·rw [if_neg c4] at h
      obtain rfl := Oi h
      clear h
      have qc4 : (a0_4 == a1_4) = false := beq_eq_false_iff_ne.mpr c4
      replace c4 : (a0_4 != a1_4) = true := bne_iff_ne.mpr c4
      go_wp2_with (first | (go_at_call 69; (with_reducible refine (laws_eqAttrS.calls k _ _ l0_2 _ _ l1_2 true w2 (Kd.C_below HC2.out HB2.out) HL2.out (Kd.C_below HD2.out HB2.out) HM2.out A1.out).mono ?_); rintro e w3 ⟨rfl, hb⟩; have HB3 := Ak (below_step HB2.out hb); have HX3 := blk_below HX.out hb; have HY3 := blk_below HY.out hb; have hx3' := blk_cell HX3 3; have hy3' := blk_cell HY3 3; have hx4' := blk_cell HX3 4; have hy4' := blk_cell HY3 4; have hx5' := blk_cell HX3 5; have hy5' := blk_cell HY3 5; clear HX3 HY3; clear hb))
      go_ret
      exact ⟨rfl, HB3.out⟩
    ·rw [if_neg c3] at h
     obtain rfl := Oi h
     clear h
     have qc3 : (a0_3.toList == a1_3.toList) = false := beq_eq_false_iff_ne.mpr c3
     replace c3 : (a0_3.toList != a1_3.toList) = true := bne_iff_ne.mpr c3
     go_wp2_with (first | (go_at_call 69; (with_reducible refine (laws_eqAttrS.calls k _ _ l0_2 _ _ l1_2 true w2 (Kd.C_below HC2.out HB2.out) HL2.out (Kd.C_below HD2.out HB2.out) HM2.out A1.out).mono ?_); rintro e w3 ⟨rfl, hb⟩; have HB3 := Ak (below_step HB2.out hb); have HX3 := blk_below HX.out hb; have HY3 := blk_below HY.out hb; have hx3' := blk_cell HX3 3; have hy3' := blk_cell HY3 3; have hx4' := blk_cell HX3 4; have hy4' := blk_cell HY3 4; have hx5' := blk_cell HX3 5; have hy5' := blk_cell HY3 5; clear HX3 HY3; clear hb))
     go_ret
     exact ⟨rfl, HB3.out⟩
  ·rw [if_neg c1] at h
   obtain rfl := Oi h
   clear h
   have qc1 : (a0_1.toList == a1_1.toList) = false := beq_eq_false_iff_ne.mpr c1
   replace c1 : (a0_1.toList != a1_1.toList) = true := bne_iff_ne.mpr c1
   go_wp2
   go_ret
   exact ⟨rfl, HB2.out⟩
 ·rw [if_neg c0] at h
  obtain rfl := Oi h
  clear h
  have qc0 : (a0_0 == a1_0) = false := beq_eq_false_iff_ne.mpr c0
  replace c0 : (a0_0 != a1_0) = true := bne_iff_ne.mpr c0
  go_wp2
  go_ret
  exact ⟨rfl, HB2.out⟩
def laws_eqNodeS.l0 : Nat → List S41 → List S41 → Int → Option Bool
 | 0, _, _, _ => none
 | k + 1, x0, x1, x5 => if x5 < (x0.length : Int) then (if 0 ≤ x5 then (if x5 < (x1.length : Int) then ((laws_eqNode.f k (rd_T41 x0 x5).f0 (rd_T41 x0 x5).f1 (rd_T41 x0 x5).f2 (rd_T41 x0 x5).f3 (rd_T41 x0 x5).f4 (rd_T41 x0 x5).f5 (rd_T41 x1 x5).f0 (rd_T41 x1 x5).f1 (rd_T41 x1 x5).f2 (rd_T41 x1 x5).f3 (rd_T41 x1 x5).f4 (rd_T41 x1 x5).f5).bind fun t103 => (if t103 = true then (laws_eqNodeS.l0 k x0 x1 (wrap64 (x5 + 1))) else (some false))) else (none)) else (none)) else (some true)
def laws_eqNodeS.f (k : Nat) (l0 : List S41) (l1 : List S41) : Option Bool := if (l0.length : Int) = (l1.length : Int) then (laws_eqNodeS.l0 k l0 l1 0) else (some false)
theorem laws_eqNodeS.mono_l : ∀ k, (∀ y0 y1 y2, LeO (laws_eqNodeS.l0 k y0 y1 y2) (laws_eqNodeS.l0 (k + 1) y0 y1 y2))
 | 0 => fun _ _ _ r h => by simp [laws_eqNodeS.l0] at h
 | k + 1 => fun a b i => by
  rw [laws_eqNodeS.l0, laws_eqNodeS.l0]
  exact LeO.ite (LeO.ite (LeO.ite (LeO.bind (laws_eqNode.mono _ _ _ _ _ _ _ _ _ _ _ _ k) (fun _ => LeO.ite (laws_eqNodeS.mono_l k _ _ _) (LeO.refl _))) (LeO.refl _)) (LeO.refl _)) (LeO.refl _)
theorem laws_eqNodeS.mono : ∀ a0 a1 k, LeO (laws_eqNodeS.f k a0 a1) (laws_eqNodeS.f (k + 1) a0 a1) := fun a0 a1 k => LeO.ite (laws_eqNodeS.mono_l k _ _ _) (LeO.refl _)
theorem laws_eqNodeS.calls (k : Nat) (A0 : Option Addr) (c0 : Nat) (xs : List S41) (A1 : Option Addr) (c1 : Nat) (ys : List S41) (r : Bool) (w : World) (hr0 : Kd.C k41 w A0 xs.length xs) (hc0 : xs.length ≤ c0) (hr1 : Kd.C k41 w A1 ys.length ys) (hc1 : ys.length ≤ c1) (h : laws_eqNodeS.f k xs ys = some r) :
 Calls Tryz.prog 23 #[.slice A0 xs.length c0, .slice A1 ys.length c1] w fun e w' => e = .returned (.bool r) ∧ Below w.heap.size w w' := by
 unfold laws_eqNodeS.f at h
 have HC := Ak hr0
 have HD := Ak hr1
 clear hr0 hr1 hc0 hc1
 by_cases cl : (xs.length : Int) = (ys.length : Int)
 ·rw [if_pos cl] at h
  have HA := Ak h
  clear h
  have clb : ((xs.length : Int) != (ys.length : Int)) = false := bne_eq_false_iff_eq.mpr cl
  clear cl
  go_enter Tryz.func23, Tryz.ntmps23
  go_wp2
  go_loopg [5] k (fun kq v5 w' => ∃ (i : Int), v5 = .int .i64 i ∧ Aside0 (laws_eqNodeS.l0 kq xs ys i = some r) ∧ Aside0 (kq ≤ k) ∧ Aside0 (Below w.heap.size w w'))
  case atStart => exact ⟨0, rfl, HA, ⟨Nat.le_refl _⟩, ⟨Below.refl _ _⟩⟩
  case round =>
   clear HA
   obtain ⟨i, rfl, HA, HK, HB⟩ := hrel
   cases gk with
   | zero => exact absurd HA.out (by simp [laws_eqNodeS.l0])
   | succ k1 =>
    have H := HA.out
    clear HA
    simp only [laws_eqNodeS.l0] at H
    by_cases g1 : i < (xs.length : Int)
    ·rw [if_pos g1] at H
     by_cases g2 : 0 ≤ i
     ·rw [if_pos g2] at H
      by_cases g3 : i < (ys.length : Int)
      ·rw [if_pos g3] at H
       obtain ⟨b, hb, H⟩ := Ob H
       have HA := Ak H
       have HS := Ak hb
       clear H hb
       have g1b : decide (i < (xs.length : Int)) = true := decide_eq_true g1
       obtain ⟨ad, A_2, c_2, A_5, c_5, e1, hx0, hx1, hx2, hx3, hx4, hx5, hl2, hi2, hl5, hi5⟩ := at_T41 HC.out i g2 g1
       obtain ⟨bd, B_2, d_2, B_5, d_5, e2, hy0, hy1, hy2, hy3, hy4, hy5, hm2, hj2, hm5, hj5⟩ := at_T41 HD.out i g2 g3
       subst e1
       subst e2
       have HI2 := Ak hi2
       have HI5 := Ak hi5
       have HJ2 := Ak hj2
       have HJ5 := Ak hj5
       have HL2 := Ak hl2
       have HL5 := Ak hl5
       have HM2 := Ak hm2
       have HM5 := Ak hm5
       clear hl2 hi2 hl5 hi5 hm2 hj2 hm5 hj5
       replace hx0 := pw_cell_below HB.out hx0
       replace hx1 := pw_cell_below HB.out hx1
       replace hx2 := pw_cell_below HB.out hx2
       replace hx3 := pw_cell_below HB.out hx3
       replace hx4 := pw_cell_below HB.out hx4
       replace hx5 := pw_cell_below HB.out hx5
       replace hy0 := pw_cell_below HB.out hy0
       replace hy1 := pw_cell_below HB.out hy1
       replace hy2 := pw_cell_below HB.out hy2
       replace hy3 := pw_cell_below HB.out hy3
       replace hy4 := pw_cell_below HB.out hy4
       replace hy5 := pw_cell_below HB.out hy5
       replace g1 := eq_true g1
       replace g2 := eq_true g2
       replace g3 := eq_true g3
       go_upto_region 6 with (fail)
       go_still_tail 8, (by kernel_rfl)
       change wpList _ _ _ _ _ wr.drew
       have HB2 := Ak (show Below w.heap.size w wr.drew from pw_below_drewN HB.out 1)
       generalize wr.drew = w2 at HB2 ⊢
       cases b with
       | true =>
        have H := HA.out
        rw [if_pos rfl] at H
        have HA1 := Ak H
        clear H HA
        go_wp2_with (first | (go_at_call 44; (with_reducible refine (laws_eqNode.calls k1 _ _ _ _ _ _ _ _ _ _ _ _ _ _ _ _ _ _ _ _ true w2 (Kd.C_below HI2.out HB2.out) HL2.out (Kd.C_below HI5.out HB2.out) HL5.out (Kd.C_below HJ2.out HB2.out) HM2.out (Kd.C_below HJ5.out HB2.out) HM5.out HS.out).mono ?_); rintro e w3 ⟨rfl, hb⟩; have HB3 := Ak (below_step HB2.out hb); clear hb))
        go_roundg k1
        case measure => have := HK.out; omega
        case rel => exact ⟨_, rfl, HA1, ⟨by have := HK.out; omega⟩, HB3⟩
       | false =>
        have H := HA.out
        rw [if_neg (by decide)] at H
        obtain rfl := Oi H
        clear H
        go_wp2_with (first | (go_at_call 44; (with_reducible refine (laws_eqNode.calls k1 _ _ _ _ _ _ _ _ _ _ _ _ _ _ _ _ _ _ _ _ false w2 (Kd.C_below HI2.out HB2.out) HL2.out (Kd.C_below HI5.out HB2.out) HL5.out (Kd.C_below HJ2.out HB2.out) HM2.out (Kd.C_below HJ5.out HB2.out) HM5.out HS.out).mono ?_); rintro e w3 ⟨rfl, hb⟩; have HB3 := Ak (below_step HB2.out hb); clear hb))
        go_ret
        exact ⟨rfl, HB3.out⟩
      ·rw [if_neg g3] at H; cases H
     ·rw [if_neg g2] at H; cases H
    ·rw [if_neg g1] at H
     obtain rfl := Oi H
     clear H
     have g1b : decide (i < (xs.length : Int)) = false := decide_eq_false g1
     clear g1
     go_wp2
     go_ret
     exact ⟨rfl, HB.out⟩
 ·rw [if_neg cl] at h
  obtain rfl := Oi h
  clear h
  have clb : ((xs.length : Int) != (ys.length : Int)) = true := bne_iff_ne.mpr cl
  clear cl
  go_enter Tryz.func23, Tryz.ntmps23
  go_wp2
  go_ret
  exact ⟨rfl, Below.refl _ _⟩
def laws_eqTree.f (k : Nat) (l0_0 : List (S41)) (l1_0 : List (S41)) : Option (Bool) := (laws_eqNodeS.f k l0_0 l1_0).bind fun t103 => (if t103 = true then (some true) else (some false))
theorem laws_eqTree.mono : ∀ a0 a1 k, LeO (laws_eqTree.f k a0 a1) (laws_eqTree.f (k + 1) a0 a1) := by
 intro a0 a1 k
 unfold laws_eqTree.f
 repeat' (with_reducible first | exact laws_eqNodeS.mono _ _ _ | exact LeO.refl _ | exact LeO.none _ | refine LeO.ite ?_ ?_ | refine LeO.bind ?_ (fun _ => ?_))
theorem laws_eqTree.calls (k : Nat) (A0_0 : Option Addr) (c0_0 : Nat) (l0_0 : List (S41)) (A1_0 : Option Addr) (c1_0 : Nat) (l1_0 : List (S41)) (r : Bool) (w : World) (hr0_0 : Kd.C k41 w A0_0 l0_0.length l0_0) (hc0_0 : l0_0.length ≤ c0_0) (hr1_0 : Kd.C k41 w A1_0 l1_0.length l1_0) (hc1_0 : l1_0.length ≤ c1_0) (h : laws_eqTree.f k l0_0 l1_0 = some r) :
 Calls Tryz.prog 9 #[.agg #[.slice A0_0 l0_0.length c0_0], .agg #[.slice A1_0 l1_0.length c1_0]] w fun e w' => e = .returned (.bool r) ∧ Below w.heap.size w w' := by
 have hu29 := Tryz.underlying29
 have HR0_0 := Ak hr0_0
 have HC0_0 := Ak hc0_0
 clear hr0_0 hc0_0
 have HR1_0 := Ak hr1_0
 have HC1_0 := Ak hc1_0
 clear hr1_0 hc1_0
 have HB := Ak (Below.refl w.heap.size w)
 have H : ((laws_eqNodeS.f k l0_0 l1_0).bind fun t103 => (if t103 = true then (some true) else (some false))) = some r := h
 clear h
 replace H := Ob H
 obtain ⟨t103, A30, H⟩ := H
 replace H : (if t103 = true then (some true) else (some false)) = some r := H
 have A3 := Ak A30
 clear A30
 by_cases c4 : t103 = true
 ·subst c4
  rw [if_pos rfl] at H
  obtain rfl := Oi H
  go_enter Tryz.func9, Tryz.ntmps9
  go_wp2_with (first | ((with_reducible refine gate_dst (N := 2) rfl ?_); refine box_event ?hg (N := 2) ?hd (cs := #[.slice A0_0 l0_0.length c0_0]) (t := 29) ?hr ?_; (case hd => rfl); (case hg => rfl); (case hr => go_simp); intro gb101 hg w5 hbox hb; have n0_ := Ak (below_step (HB.out) hb); have n1_ := Ak (hbox); have n2_ := Ak ((by rw [hg]; exact (below_size (HB.out)) : w.heap.size ≤ gb101)); have n3_ := n2_; clear HB; have HB := n0_; have BK101 := n1_; have GW101 := n2_; have GE101 := n3_; clear n0_ n1_ n2_ n3_; clear hb hbox hg) | ((with_reducible refine gate_dst (N := 3) rfl ?_); refine box_event ?hg (N := 3) ?hd (cs := #[.slice A1_0 l1_0.length c1_0]) (t := 29) ?hr ?_; (case hd => rfl); (case hg => rfl); (case hr => go_simp); intro gb102 hg w6 hbox hb; have n0_ := Ak (blk_below BK101.out hb); have n1_ := Ak (below_step (HB.out) hb); have n2_ := Ak (hbox); have n3_ := Ak ((by rw [hg]; exact (below_size (HB.out)) : w.heap.size ≤ gb102)); have n4_ := n3_; have n5_ := Ak ((by rw [hg]; exact Nat.ne_of_lt (blk_lt BK101.out) : gb101 ≠ gb102)); have n6_ := Ak (Ne.symm n5_.out); clear BK101; clear HB; have BK101 := n0_; have HB := n1_; have BK102 := n2_; have GW102 := n3_; have GE102 := n4_; have NB101_102 := n5_; have NB102_101 := n6_; clear n0_ n1_ n2_ n3_ n4_ n5_ n6_; clear hb hbox hg; have hnb7 := NB101_102.out; have hnc7 := NB102_101.out; have hcz8_0 := blk_cell BK101.out 0; have hfz8_0 := blk_frozen BK101.out 0; have hcz9_0 := blk_cell BK102.out 0; have hfz9_0 := blk_frozen BK102.out 0) | (go_at_call 23; (with_reducible refine (laws_eqNodeS.calls k _ _ l0_0 _ _ l1_0 true _ ?side1 ?side2 ?side3 ?side4 A3.out).mono ?_); (case side1 => exact (Kd.C_below HR0_0.out HB.out)); (case side2 => exact HC0_0.out); (case side3 => exact (Kd.C_below HR1_0.out HB.out)); (case side4 => exact HC1_0.out); rintro e w10 ⟨rfl, hb⟩; replace BK101 := Ak (blk_below BK101.out hb); replace BK102 := Ak (blk_below BK102.out hb); replace HB := Ak (below_step (HB.out) hb); (try clear hb)))
  go_ret
  exact ⟨rfl, HB.out⟩
 ·replace c4 := Bool.eq_false_iff.mpr c4
  subst c4
  rw [if_neg (show ¬ (false = true) by decide)] at H
  obtain rfl := Oi H
  go_enter Tryz.func9, Tryz.ntmps9
  go_wp2_with (first | ((with_reducible refine gate_dst (N := 2) rfl ?_); refine box_event ?hg (N := 2) ?hd (cs := #[.slice A0_0 l0_0.length c0_0]) (t := 29) ?hr ?_; (case hd => rfl); (case hg => rfl); (case hr => go_simp); intro gb101 hg w11 hbox hb; have n0_ := Ak (below_step (HB.out) hb); have n1_ := Ak (hbox); have n2_ := Ak ((by rw [hg]; exact (below_size (HB.out)) : w.heap.size ≤ gb101)); have n3_ := n2_; clear HB; have HB := n0_; have BK101 := n1_; have GW101 := n2_; have GE101 := n3_; clear n0_ n1_ n2_ n3_; clear hb hbox hg) | ((with_reducible refine gate_dst (N := 3) rfl ?_); refine box_event ?hg (N := 3) ?hd (cs := #[.slice A1_0 l1_0.length c1_0]) (t := 29) ?hr ?_; (case hd => rfl); (case hg => rfl); (case hr => go_simp); intro gb102 hg w12 hbox hb; have n0_ := Ak (blk_below BK101.out hb); have n1_ := Ak (below_step (HB.out) hb); have n2_ := Ak (hbox); have n3_ := Ak ((by rw [hg]; exact (below_size (HB.out)) : w.heap.size ≤ gb102)); have n4_ := n3_; have n5_ := Ak ((by rw [hg]; exact Nat.ne_of_lt (blk_lt BK101.out) : gb101 ≠ gb102)); have n6_ := Ak (Ne.symm n5_.out); clear BK101; clear HB; have BK101 := n0_; have HB := n1_; have BK102 := n2_; have GW102 := n3_; have GE102 := n4_; have NB101_102 := n5_; have NB102_101 := n6_; clear n0_ n1_ n2_ n3_ n4_ n5_ n6_; clear hb hbox hg; have hnb13 := NB101_102.out; have hnc13 := NB102_101.out; have hcz14_0 := blk_cell BK101.out 0; have hfz14_0 := blk_frozen BK101.out 0; have hcz15_0 := blk_cell BK102.out 0; have hfz15_0 := blk_frozen BK102.out 0) | (go_at_call 23; (with_reducible refine (laws_eqNodeS.calls k _ _ l0_0 _ _ l1_0 false _ ?side1 ?side2 ?side3 ?side4 A3.out).mono ?_); (case side1 => exact (Kd.C_below HR0_0.out HB.out)); (case side2 => exact HC0_0.out); (case side3 => exact (Kd.C_below HR1_0.out HB.out)); (case side4 => exact HC1_0.out); rintro e w16 ⟨rfl, hb⟩; replace BK101 := Ak (blk_below BK101.out hb); replace BK102 := Ak (blk_below BK102.out hb); replace HB := Ak (below_step (HB.out) hb); (try clear hb)))
  go_ret
  exact ⟨rfl, HB.out⟩
def laws_FnExactPrintOf.f (k : Nat) (l : List S70) : Option Bool := (laws_szTree.f k l 1048576).bind fun t1 => if t1 < 0 then some true else (laws_toTree.f k l).bind fun ta => (spec_PrintOf.f k ta).bind fun x0 => (impl_PrintOf.f k ta).bind fun g0 => (laws_eqTree.f k ta ta).bind fun e1 => if g0 = x0 ∧ e1 = true then some true else none
theorem laws_FnExactPrintOf.mono : ∀ a0 k, LeO (laws_FnExactPrintOf.f k a0) (laws_FnExactPrintOf.f (k + 1) a0) := fun a0 k => LeO.bind (laws_szTree.mono _ _ k) (fun _ => LeO.ite (LeO.refl _) (LeO.bind (laws_toTree.mono _ k) (fun _ => LeO.bind (spec_PrintOf.mono _ k) (fun _ => LeO.bind (impl_PrintOf.mono _ k) (fun _ => LeO.bind (laws_eqTree.mono _ _ k) (fun _ => LeO.refl _))))))
structure PlA (w W : World) (ga g5 : Nat) (A0 : Option Addr) (n0 c0 : Nat) (A5 : Option Addr) (c5 : Nat) (ta : List S41) : Prop where
 a : W.heap[ga]? = some (.cells #[.slice A0 n0 c0] 24 (0, 0))
 b5 : W.heap[g5]? = some (.cells #[.slice A5 ta.length c5] 29 (0, 0))
 r5 : Kd.C k41 W A5 ta.length ta
 l5 : ta.length ≤ c5
 low : Below w.heap.size w W
theorem PlA.below {w W W2 : World} {ga g5 n0 c0 c5 : Nat} {A0 A5 : Option Addr} {ta : List S41} (h : PlA w W ga g5 A0 n0 c0 A5 c5 ta) (hb : Below W.heap.size W W2) : PlA w W2 ga g5 A0 n0 c0 A5 c5 ta :=
 ⟨blk_below h.a hb, blk_below h.b5 hb, Kd.C_below h.r5 hb, h.l5, below_step h.low hb⟩
theorem PlA.drew {w W : World} {ga g5 n0 c0 c5 : Nat} {A0 A5 : Option Addr} {ta : List S41} (h : PlA w W ga g5 A0 n0 c0 A5 c5 ta) : PlA w W.drew ga g5 A0 n0 c0 A5 c5 ta := h.below (pw_below_drewN (Below.refl _ _) 1)
theorem laws_FnExactPrintOf.calls (k : Nat) (A0_0 : Option Addr) (c0_0 : Nat) (l0_0 : List S70) (r : Bool) (m : Int) (w : World) (hr0_0 : Kd.C k70 w A0_0 l0_0.length l0_0) (hc0_0 : l0_0.length ≤ c0_0) (hm : w.cell? ⟨0, 0, none⟩ = some (.int .i64 m)) (h : laws_FnExactPrintOf.f k l0_0 = some r) :
 Calls Tryz.prog 3 #[.agg #[.slice A0_0 l0_0.length c0_0]] w fun e w' => e = .returned (.bool r) ∧ Below w.heap.size w w' := by
 unfold laws_FnExactPrintOf.f at h
 obtain ⟨t1, E1, h⟩ := Ob h
 replace E1 := Ak E1
 have HA := Ak h
 have HC := Ak hr0_0
 have HCC := Ak hc0_0
 have HM := Ak hm
 clear h hr0_0 hc0_0 hm
 go_enter Tryz.func3, Tryz.ntmps3
 go_upto_region 1 with (first | ((with_reducible refine gate_dst (N := 1) rfl ?_); refine box_event ?hg (N := 1) ?hd (cs := #[.slice A0_0 l0_0.length c0_0]) (t := 24) ?hr ?_; (case hd => rfl); (case hg => rfl); (case hr => first | (go_simp; done) | (go_simp; rfl)); intro ga hg w1 hbox hb; have HG := Ak hbox; have HL := Ak hb; clear hbox hb hg))
 have hca := blk_cell HG.out 0
 have H := HA.out
 by_cases c1 : t1 < 0
 ·rw [if_pos c1] at H
  obtain rfl := Oi H
  clear H HA
  have c1b : decide (t1 < 0) = true := decide_eq_true c1
  go_wp2_with (first | (go_at_call 5; (with_reducible refine (laws_szTree.calls k A0_0 c0_0 l0_0 1048576 t1 w1 (Kd.C_below HC.out HL.out) HCC.out E1.out).mono ?_); rintro e w2 ⟨rfl, hb⟩; have HG2 := Ak (blk_below HG.out hb); have HL2 := Ak (below_step HL.out hb); have hca2 := blk_cell HG2.out 0; clear hb))
  go_ret
  exact ⟨rfl, HL2.out⟩
 ·rw [if_neg c1] at H
  have c1b : decide (t1 < 0) = false := decide_eq_false c1
  clear c1 HA
  obtain ⟨ta, E2, H⟩ := Ob H
  obtain ⟨x0, E3, H⟩ := Ob H
  obtain ⟨g0, E4, H⟩ := Ob H
  obtain ⟨e1, E5, H⟩ := Ob H
  by_cases c2 : g0 = x0 ∧ e1 = true
  ·rw [if_pos c2] at H
   obtain rfl := Oi H
   obtain ⟨rfl, rfl⟩ := c2
   replace E2 := Ak E2
   replace E3 := Ak E3
   replace E4 := Ak E4
   replace E5 := Ak E5
   have hq : (g0.toList != g0.toList) = false := by simp
   clear H
   go_upto_region 6 with (first | (go_at_call 5; (with_reducible refine (laws_szTree.calls k A0_0 c0_0 l0_0 1048576 t1 w1 (Kd.C_below HC.out HL.out) HCC.out E1.out).mono ?_); rintro e w2 ⟨rfl, hb⟩; have HG2 := Ak (blk_below HG.out hb); have HL2 := Ak (below_step HL.out hb); have hca2 := blk_cell HG2.out 0; clear hb) | (go_at_call 7; (with_reducible refine (laws_toTree.calls k A0_0 c0_0 l0_0 ta w2 (Kd.C_below HC.out HL2.out) HCC.out E2.out).mono ?_); rintro e w3 ⟨v, rfl, hS, hb⟩; obtain ⟨Ap, cp, rfl⟩ := Kd.S_slice hS; have HG3 := Ak (blk_below HG2.out hb); have HL3 := Ak (below_step HL2.out hb); have HP3 := Ak (Kd.R_reads' (Kd.S_R hS)).2; have hca3 := blk_cell HG3.out 0; clear hS hb) | (go_at_call 6; (with_reducible refine (spec_PrintOf.calls k Ap cp ta g0 w3 HP3.out.2 HP3.out.1 E3.out).mono ?_); rintro e wx ⟨rfl, hb⟩; have HGX := Ak (blk_below HG3.out hb); have HLX := Ak (below_step HL3.out hb); clear hb))
   clear hca hca2 hca3 c1b HG HG2 HG3 HL HL2 HL3 HP3
   have hcaX := blk_cell HGX.out 0
   go_upto_region 7 with (first | (go_at_call 7; (with_reducible refine (laws_toTree.calls k A0_0 c0_0 l0_0 ta wx (Kd.C_below HC.out HLX.out) HCC.out E2.out).mono ?_); rintro e w5 ⟨v, rfl, hS, hb⟩; obtain ⟨A5, c5, rfl⟩ := Kd.S_slice hS; have HG5 := Ak (blk_below HGX.out hb); have HL5 := Ak (below_step HLX.out hb); have HS5 := Ak (Kd.R_reads' (Kd.S_R hS)).2; clear hS hb))
   clear hcaX
   have hX := blk_new w5 (.cells #[.slice A5 ta.length c5] 29)
   have hl := below_alloc (Below.refl w5.heap.size w5) (.cells #[.slice A5 ta.length c5] 29)
   generalize w5.alloc (.cells #[.slice A5 ta.length c5] 29) = w6 at hX hl ⊢
   have HT := Ak (show PlA w w6 ga w5.heap.size A0_0 l0_0.length c0_0 A5 c5 ta from ⟨blk_below HG5.out hl, hX, Kd.C_below HS5.out.2 hl, HS5.out.1, below_step HL5.out hl⟩)
   clear hX hl HG5 HL5 HS5 HGX HLX
   generalize w5.heap.size = g5 at HT ⊢
   have hc5 := blk_cell HT.out.b5 0
   go_upto_region 10 with (first | (go_at_call 8; (with_reducible refine (impl_PrintOf.calls k A5 c5 ta g0 m _ HT.out.r5 HT.out.l5 (pw_cell_below HT.out.low HM.out) E4.out).mono ?_); rintro e w9 ⟨rfl, hb⟩; have HT9 := Ak (HT.out.below hb); clear hb))
   have HTD := Ak HT9.out.drew
   clear hc5 HT
   have hc5 := blk_cell HT9.out.b5 0
   have hca := blk_cell HT9.out.a 0
   go_region_held3 (fun w' => w'.cell? ⟨g5, 0, none⟩ = some (.slice A5 ta.length c5) ∧ w'.cell? ⟨ga, 0, none⟩ = some (.slice A0_0 l0_0.length c0_0)) (first | exact ⟨hc5, hca⟩ | exact ⟨hc5A, hcaA⟩ | exact ⟨hc5B, hcaB⟩) (first | (go_at_call 7; (with_reducible refine (laws_toTree.calls k A0_0 c0_0 l0_0 ta _ (Kd.C_below HC.out HTD.out.low) HCC.out E2.out).mono ?_); rintro e wA ⟨v, rfl, hS, hb⟩; obtain ⟨Ap, cp, rfl⟩ := Kd.S_slice hS; have HTA := Ak (HTD.out.below hb); have HPA := Ak (Kd.R_reads' (Kd.S_R hS)).2; have hc5A := blk_cell HTA.out.b5 0; have hcaA := blk_cell HTA.out.a 0; clear hS hb) | (go_at_call 9; (with_reducible refine (laws_eqTree.calls k A5 c5 ta Ap cp ta true _ HTA.out.r5 HTA.out.l5 HPA.out.2 HPA.out.1 E5.out).mono ?_); rintro e wB ⟨rfl, hb⟩; have HTB := Ak (HTA.out.below hb); have hc5B := blk_cell HTB.out.b5 0; have hcaB := blk_cell HTB.out.a 0; clear hb))
   clear hc5 hca hc5A hcaA hc5B hcaB
   go_wp2
   go_ret
   exact ⟨rfl, HTB.out.low⟩
  ·rw [if_neg c2] at H; cases H
end Go.Proofs.YtlnmmcipioagaaaGreatDoor.X
